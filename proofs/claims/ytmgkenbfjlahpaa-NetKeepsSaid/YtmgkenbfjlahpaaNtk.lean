/-
  Ntk: TurnBytes; NetKeeps: the walk.
-/
import Derived.Test.YtmgkenbfjlahpaaNti
import Derived.Test.YtmgkenbfjlahpaaApw
import Derived.Test.YtmgkenbfjlahpaaOvr
import Derived.Laws.OwnMore
namespace Go.Proofs.Ytmgkenbfjlahpaa
open Go.RowKit Go.WideMaps Go.Sort

theorem xor255 (x : UInt8) : bits BinOp.xor IntKind.u8 (x.toNat : Int) 255 = ((x ^^^ 255).toNat : Int) := by
  have hx := x.toNat_lt
  rw [show (255 : Int) = ((255 : Nat) : Int) from rfl, u8_xor_nat _ _ hx (by omega), UInt8.toNat_xor]
  rfl
theorem bv_setS (l : List UInt8) (q : Nat) (y : UInt8) : (bv l).set q (.int .u8 (y.toNat : Int)) = bv (l.set q y) := by simp [bv, List.map_set]

set_option maxRecDepth 8000 in
set_option maxHeartbeats 1600000 in
theorem turnb_calls {B n c : Nat} {A : Option Addr} {l : List UInt8} {w : World} (h : w.ownsRow B 5 1 (.slice A n c) n (bv l)) (hl : n ≤ 1000000000) :
    Calls Try.prog 18 #[.slice A n c] w fun e w' => e = .returned (.tuple #[]) ∧ Fr (fun g => (Value.slice A n c).ownBlock = some g) w w' := by
  have hli : (n : Int) ≤ 1000000000 := by omega
  have HO := Lib.hid h
  clear h
  go_enter Try.func18, Try.ntmps18
  go_wp2
  go_loopw [2] (fun s W => ∃ (k : Nat) (l : List UInt8), k ≤ n ∧ s = .int .i64 (k : Int) ∧ W.ownsRow B 5 1 (.slice A n c) n (bv l) ∧ Fr (fun g => (Value.slice A n c).ownBlock = some g) w W) (fun s _ => n - (intOf s).toNat)
  case atStart => exact ⟨0, l, Nat.zero_le _, rfl, HO.out, Fr.refl _ _⟩
  case round =>
    obtain ⟨k, l', hk, rfl, ho, hf⟩ := hrel
    have O := Lib.hid ho
    have F := Lib.hid hf
    clear ho hf
    by_cases hlt : k < n
    · have hki : (k : Int) < (n : Int) := by omega
      have hk0 : (0 : Int) ≤ (k : Int) := by omega
      have hlen : l'.length = n := by have := O.out.1; simpa using this
      obtain ⟨g, c', hv⟩ := own_some O.out (by omega)
      cases hv
      have hcell := (O.out.cellAt k (by omega)).trans (bv_get l' k (by omega))
      have hfr := O.out.frozenAt k
      obtain ⟨x, hx⟩ : ∃ x, l'.getD k 0 = x := ⟨_, rfl⟩
      rw [hx] at hcell
      clear hx
      obtain ⟨z, hz⟩ : ∃ z : UInt8, bits BinOp.xor IntKind.u8 (x.toNat : Int) 255 = (z.toNat : Int) := ⟨_, xor255 x⟩
      have hst := World.ownsRow.stored O.out k (.int .u8 (z.toNat : Int))
      rw [bv_setS] at hst
      have O2 := Lib.hid hst.1
      have F2 := Lib.hid (F.out.setCell (p := ⟨g, k, none⟩) (fun _ => rfl) (.int .u8 (z.toNat : Int)))
      clear hst
      go_wp2
      go_roundw
      case rel => exact ⟨k + 1, l'.set k z, by omega, by go_num, O2.out, F2.out⟩
      case measure => simp [intOf]; omega
    · go_wp2
      go_end0
      exact ⟨rfl, F.out⟩

theorem send_ok {L : List (Lk × List UInt8)} {k : Lk} {b : List UInt8} (h1 : (bag L k).length < 32) (h2 : b.length ≤ 1048576) : sendOk L k b = true ∧ sendL L k b = L ++ [(k, b)] := by
  have h : sendOk L k b = true := by unfold sendOk; rw [decide_eq_true h1, decide_eq_true h2]; rfl
  exact ⟨h, by unfold sendL; rw [if_pos h]⟩
theorem own_low0 {w : World} {base e size n : Nat} {v : Value} {xs : List Value} (h : w.ownsRow base e size v n xs) : w.ownsRow 0 e size v n xs := nown_base h (Nat.zero_le _)
theorem ob_eq {J n c g : Nat} (h : (Value.slice (some ⟨J, 0, none⟩) n c).ownBlock = some g) : J = g := by simpa [Value.ownBlock] using h
/-- A net made since w, in blocks of O; block J is not one of them. -/
structure KN (w W : World) (J p B : Nat) (L : List (Lk × List UInt8)) (O : Nat → Prop) : Prop where
  net : NetV W p B L O
  lo : ∀ g, O g → w.heap.size ≤ g ∧ g ≠ J
  fr : Fr NoB w W
  lt : J < W.heap.size
theorem KN.step {w W W' : World} {J p B B' : Nat} {L L' : List (Lk × List UInt8)} {O O' : Nat → Prop} (h : KN w W J p B L O) (hn : NetV W' p B' L' O') (hO : ∀ g, O' g → O g ∨ New W W' g) (f : Fr O W W') : KN w W' J p B' L' O' :=
  ⟨hn, fun g hg => (hO g hg).elim (h.lo g) (fun x => ⟨Nat.le_trans h.fr.size x.1, by have := x.1; have := h.lt; omega⟩), h.fr.trans f (fun k hk hx => by have := (h.lo k hx).1; omega), Nat.lt_of_lt_of_le h.lt f.size⟩
theorem KN.quiet {w W W' : World} {J p B : Nat} {L : List (Lk × List UInt8)} {O M : Nat → Prop} (h : KN w W J p B L O) (f : Fr M W W') (hm : ∀ g, M g → w.heap.size ≤ g) (hO : ∀ g, O g → ¬ M g) : KN w W' J p B L O :=
  ⟨h.net.fr f hO, h.lo, h.fr.trans f (fun k hk hx => by have := hm k hx; omega), Nat.lt_of_lt_of_le h.lt f.size⟩

set_option maxRecDepth 8000 in
set_option maxHeartbeats 6400000 in
theorem keeps_walk (D : Option Addr) (b : List UInt8) (d : Nat) (w : World) (h : Rd w 0 w.heap.size D b) (hl : b.length ≤ 140737488355328) :
    Calls Try.prog 3 #[.slice D b.length d] w fun e w' => e = .returned (.bool true) ∧ Fr NoB w w' := by
  by_cases hgt : 10000 < b.length
  · have hg : (10000 : Int) < (b.length : Int) := by omega
    clear h
    go_enter Try.func3, Try.ntmps3
    go_wp2_with (fail)
    refine (awake_calls w).mono ?_
    rintro e w1 ⟨rfl, f1⟩
    go_wp2
    go_ret
    exact ⟨rfl, f1⟩
  have hg : ¬ (10000 : Int) < (b.length : Int) := by omega
  have hk12 : InR (1, 2) := by unfold InR; omega
  have hb6 : b.length ≤ 1048576 := by omega
  have HR := Lib.hid (fun W (F : Fr NoB w W) => h.fr F (Nat.le_refl _) (fun _ _ _ x => x))
  have HB6 := Lib.hid hb6
  clear h hgt hb6
  go_enter Try.func3, Try.ntmps3
  go_wp2_with (fail)
  refine (new_calls w).mono ?_
  rintro e w1 ⟨p, rfl, hN, f1⟩
  have N1 := Lib.hid hN
  have F1 := Lib.hid f1
  clear hN f1
  go_wp2_with (fail)
  refine (lentb_own D b d 0 w.heap.size w1 (HR.out w1 F1.out) F1.out.size (by omega)).mono ?_
  rintro e w2 ⟨A2, c2, rfl, hc12, hcm2, ho2, f2⟩
  obtain ⟨J, cJ, hJ⟩ := own_some ho2 (by omega)
  cases hJ
  have HJ := Lib.hid (ho2.lt J rfl)
  have K2 := Lib.hid (show KN w w2 J p 0 [] (New w w1) from ⟨N1.out.fr f2 (fun _ _ x => x), fun g hg => ⟨hg.1, by have := hg.2; have := HJ.out.1; omega⟩, F1.out.then f2, HJ.out.2⟩)
  have O2 := Lib.hid ho2
  have HC := Lib.hid (show _ ∧ _ from ⟨hc12, hcm2⟩)
  clear ho2 f2 hc12 hcm2 N1
  have hrin : ∀ W, W.ownsRow w1.heap.size 5 1 (.slice (some ⟨J, 0, none⟩) (b.length + 12) c2) (b.length + 12) (bv (b ++ mksB 12)) → Rd W w1.heap.size W.heap.size (some ⟨J, 0, none⟩) b := fun W ho => by
    have h1 : W.ownsRow w1.heap.size 5 1 (.slice (some ⟨J, 0, none⟩) (b ++ mksB 12).length c2) (b ++ mksB 12).length (bv (b ++ mksB 12)) := by rw [show (b ++ mksB 12).length = b.length + 12 by simp [mksB]]; exact ho
    have := (own_rd h1).take (n := b.length)
    rwa [List.take_left] at this
  have HRI := Lib.hid hrin
  clear hrin
  have s1 := send_calls K2.out.net (by unfold maxLen; omega) hk12 (some ⟨J, 0, none⟩) b c2 _ _ (HRI.out _ O2.out)
  rw [(send_ok (L := []) (k := (1, 2)) (by decide) HB6.out).1, (send_ok (L := []) (k := (1, 2)) (by decide) HB6.out).2] at s1
  go_wp2_with (fail)
  refine s1.mono ?_
  rintro e w3 ⟨rfl, hN, f3⟩
  have K3 := Lib.hid (K2.out.step hN (fun g hg => hg) f3)
  have O3 := Lib.hid (ownBlock_kept (own_low0 O2.out) f3 (fun g hg hx => by cases hg; exact (K2.out.lo _ hx).2 rfl))
  clear hN f3 s1
  have s2 := twice_some K3.out.net (by unfold maxLen; omega) hk12 0 (l := b) rfl
  rw [(send_ok (L := [] ++ [((1, 2), b)]) (k := (1, 2)) (by simp [bag]) HB6.out).1, (send_ok (L := [] ++ [((1, 2), b)]) (k := (1, 2)) (by simp [bag]) HB6.out).2] at s2
  go_wp2_with (fail)
  refine s2.mono ?_
  rintro e w4 ⟨rfl, hN, f4⟩
  have K4 := Lib.hid (K3.out.step hN (fun g hg => hg) f4)
  have O4 := Lib.hid (ownBlock_kept O3.out f4 (fun g hg hx => by cases hg; exact (K3.out.lo _ hx).2 rfl))
  clear hN f4 s2 O3
  have s3 := twice_some K4.out.net (by unfold maxLen; omega) hk12 1 (l := b) rfl
  rw [(send_ok (L := [] ++ [((1, 2), b)] ++ [((1, 2), b)]) (k := (1, 2)) (by simp [bag]) HB6.out).1, (send_ok (L := [] ++ [((1, 2), b)] ++ [((1, 2), b)]) (k := (1, 2)) (by simp [bag]) HB6.out).2] at s3
  go_wp2_with (fail)
  refine s3.mono ?_
  rintro e w5 ⟨rfl, hN, f5⟩
  have K5 := Lib.hid (K4.out.step hN (fun g hg => hg) f5)
  have O5 := Lib.hid (ownBlock_kept O4.out f5 (fun g hg hx => by cases hg; exact (K4.out.lo _ hx).2 rfl))
  clear hN f5 s3 O4 K2 K3 K4
  have hO5 : w5.ownsRow w1.heap.size 5 1 (.slice (some ⟨J, 0, none⟩) (b.length + 12) c2) (b.length + 12) (bv (b ++ mksB 12)) := by
    refine ⟨O5.out.1, ?_⟩
    rcases O5.out.2 with e | ⟨g, cap, cur, hv, hg, r⟩
    · exact .inl e
    · refine .inr ⟨g, cap, cur, hv, ?_, r⟩
      cases hv
      exact HJ.out.1
  have O5b := Lib.hid hO5
  clear hO5 O5
  go_wp2_with (fail)
  refine (keptb_calls D (some ⟨J, 0, none⟩) b d c2 0 w.heap.size w1.heap.size w5.heap.size w5 (own_rd (c := c2) (by rw [show (b ++ mksB 12).length = b.length + 12 by simp [mksB]]; exact O5b.out)) (Nat.le_refl _) (HR.out w5 K5.out.fr) K5.out.fr.size (by omega) HC.out.1).mono ?_
  rintro e w6 ⟨rfl, f6⟩
  have K6 := Lib.hid (K5.out.quiet f6 (fun _ x => x.elim) (fun _ _ x => x))
  have O6 := Lib.hid (ownBlock_kept (own_low0 O5b.out) f6 (fun _ _ x => x))
  clear f6 K5 O5b
  go_wp2_with (fail)
  refine (overb_calls 0 b.length c2 (some ⟨J, 0, none⟩) _ w6 O6.out (by omega) HC.out.1 HC.out.2).mono ?_
  rintro e w7 ⟨rfl, f7⟩
  have K7 := Lib.hid (K6.out.quiet f7 (fun g hg => Nat.le_trans F1.out.size (ob_eq hg ▸ HJ.out.1)) (fun g hg hx => (K6.out.lo _ hg).2 (ob_eq hx).symm))
  clear f7 K6 O6
  have t1 := take_some K7.out.net (by unfold maxLen; omega) hk12 0 (by simp [bag])
  go_wp2_with (fail)
  refine t1.mono ?_
  rintro e w8 ⟨⟨xA, xc, xl⟩, rfl, hx, hxo, hxO, hN, f8⟩
  obtain rfl : b = xl := Option.some.inj hx
  have K8 := Lib.hid (K7.out.step hN (fun g hg => .inl hg.1) f8)
  have HX := Lib.hid hxo
  have HXO := Lib.hid (fun g hg => K7.out.lo g (hxO g hg))
  clear hN f8 t1 hx hxo hxO K7
  simp only [Pk.val] at *
  have t2 := take_some K8.out.net (by unfold maxLen; omega) hk12 0 (by simp [bag, dropL])
  go_wp2_with (fail)
  refine t2.mono ?_
  rintro e w9 ⟨⟨yA, yc, yl⟩, rfl, hy, hyo, hyO, hN, f9⟩
  obtain rfl : b = yl := Option.some.inj hy
  have K9 := Lib.hid (K8.out.step hN (fun g hg => .inl hg.1) f9)
  have HX9 := Lib.hid (ownBlock_kept HX.out f9 (fun g hg hx => hx.2 hg))
  have HY9 := Lib.hid hyo
  have HYO := Lib.hid (fun g hg => (K8.out.lo g (hyO g hg)))
  have HXY := Lib.hid (fun g hg => (hyO g hg).2)
  clear hN f9 t2 hy hyo hyO K8 HX
  simp only [Pk.val] at *
  go_wp2_with (fail)
  have c9 := same_calls xA D b b xc d _ _ _ _ w9 (own_rd HX9.out) (HR.out w9 K9.out.fr) (by omega) (by omega)
  rw [show (b == b) = true by simp] at c9
  refine c9.mono ?_
  rintro e wa ⟨rfl, na, rfl⟩
  have Ka := Lib.hid (K9.out.quiet ((Fr.refl NoB w9).drewN na) (fun _ x => x.elim) (fun _ _ x => x))
  have HXa := Lib.hid (own_step HX9.out ((Fr.refl NoB w9).drewN na))
  have HYa := Lib.hid (own_step HY9.out ((Fr.refl NoB w9).drewN na))
  generalize w9.drewN na = wa at Ka HXa HYa ⊢
  clear c9 K9 HX9 HY9
  have Kb := Lib.hid (Ka.out.quiet ((Fr.refl NoB wa).alloc (.cells #[.slice xA b.length xc, .slice yA b.length yc] 22)) (fun _ x => x.elim) (fun _ _ x => x))
  have HXb := Lib.hid (own_step HXa.out ((Fr.refl NoB wa).alloc (.cells #[.slice xA b.length xc, .slice yA b.length yc] 22)))
  have HYb := Lib.hid (own_step HYa.out ((Fr.refl NoB wa).alloc (.cells #[.slice xA b.length xc, .slice yA b.length yc] 22)))
  have hap := apartb_calls (some ⟨wa.heap.size, 0, none⟩) 2 2 0 (fun k => if k = 0 then .slice xA b.length xc else .slice yA b.length yc) (fun _ => b.length) (fun _ => b) (wa.alloc (.cells #[.slice xA b.length xc, .slice yA b.length yc] 22))
    ⟨_, 0, rfl, by simp, fun k hk => by
      rw [Lib.cell_of_heap (heap_alloc_new wa _)]
      rcases (show k = 0 ∨ k = 1 by omega) with rfl | rfl <;> rfl⟩
    (fun k hk => by
      rcases (show k = 0 ∨ k = 1 by omega) with rfl | rfl
      · exact HXb.out
      · exact HYb.out)
    (fun i j hi hj hij g h1 h2 => by
      rcases (show (i = 0 ∧ j = 1) ∨ (i = 1 ∧ j = 0) by omega) with ⟨rfl, rfl⟩ | ⟨rfl, rfl⟩
      · exact HXY.out g h2 h1
      · exact HXY.out g h1 h2)
    (Nat.zero_le _) (by omega) (by omega) (fun k hk => by show b.length ≤ _; omega)
  go_wp2_with (fail)
  refine hap.mono ?_
  rintro e wb ⟨rfl, fb, hkp⟩
  have Kc := Lib.hid (Kb.out.quiet fb (fun g hg => by
    obtain ⟨k, hk, hv⟩ := hg
    rcases (show k = 0 ∨ k = 1 by omega) with rfl | rfl
    · exact (HXO.out g hv).1
    · exact (HYO.out g hv).1) (fun g hg hx => by
    obtain ⟨k, hk, hv⟩ := hx
    rcases (show k = 0 ∨ k = 1 by omega) with rfl | rfl
    · exact hg.1.2 hv
    · exact hg.2 hv))
  have HXc := Lib.hid (hkp 0 (by omega))
  have HYc := Lib.hid (hkp 1 (by omega))
  simp only [if_true, Nat.one_ne_zero, if_false] at HXc HYc
  clear hkp fb hap Ka Kb HXa HYa HXb HYb
  go_wp2_with (fail)
  refine (turnb_calls HXc.out (by omega)).mono ?_
  rintro e wc ⟨rfl, fc⟩
  have Kd := Lib.hid (Kc.out.quiet fc (fun g hg => (HXO.out g hg).1) (fun g hg hx => hg.1.2 hx))
  have HYd := Lib.hid (ownBlock_kept HYc.out fc (fun g hg hx => HXY.out g hg hx))
  clear fc Kc HXc HYc
  go_wp2_with (fail)
  refine (turnb_calls HYd.out (by omega)).mono ?_
  rintro e wd ⟨rfl, fd⟩
  have Ke := Lib.hid (Kd.out.quiet fd (fun g hg => (HYO.out g hg).1) (fun g hg hx => hg.2 hx))
  clear fd Kd HYd
  have t3 := take_some Ke.out.net (by unfold maxLen; omega) hk12 0 (by simp [bag, dropL])
  go_wp2_with (fail)
  refine t3.mono ?_
  rintro e we ⟨⟨zA, zc, zl⟩, rfl, hz, hzo, hzO, hN, fe⟩
  obtain rfl : b = zl := Option.some.inj hz
  have Kf := Lib.hid (Ke.out.step hN (fun g hg => .inl hg.1) fe)
  have HZ := Lib.hid hzo
  clear hN fe t3 hz hzo hzO Ke
  simp only [Pk.val] at *
  have cz := same_calls zA D b b zc d _ _ _ _ we (own_rd HZ.out) (HR.out we Kf.out.fr) (by omega) (by omega)
  rw [show (b == b) = true by simp] at cz
  go_wp2_with (fail)
  refine cz.mono ?_
  rintro e wf ⟨rfl, nf, rfl⟩
  have FF := Lib.hid (Kf.out.fr.drewN nf)
  clear cz Kf HZ
  go_wp2_with (fail)
  refine (awake_calls _).mono ?_
  rintro e wg ⟨rfl, fg⟩
  go_wp2
  go_ret
  exact ⟨rfl, FF.out.then fg⟩
end Go.Proofs.Ytmgkenbfjlahpaa

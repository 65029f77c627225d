/-
  Apw: putBytes and ApartBytes.
-/
import Derived.Test.YtmgkenbfjlahpaaApv
namespace Go.Proofs.Ytmgkenbfjlahpaa
open Go.RowKit

theorem own_base {w : World} {B B' e size n : Nat} {v : Value} {xs : List Value} (h : w.ownsRow B e size v n xs) (hb : B' ≤ B) : w.ownsRow B' e size v n xs := by
  obtain ⟨h1, h2⟩ := h
  refine ⟨h1, ?_⟩
  rcases h2 with h2 | ⟨g, cap, cur, hv, hg, r⟩
  · exact .inl h2
  · exact .inr ⟨g, cap, cur, hv, by omega, r⟩
/-- The bag under way: k lists are in it. -/
structure Bg (w0 w : World) (P : Nat) (x : Value) (k : Nat) (V : Nat → Value) : Prop where
  fr : Fr NoB w0 w
  bag : w.heap[P]? = some (.cells (bagC x) 81 (0, 0))
  own : w.ownsRow w0.heap.size 22 1 x k ((List.range k).map V)
  hP : w0.heap.size ≤ P
  ne : x.ownBlock ≠ some P

theorem vs_one {w : World} {B K : Nat} {V : Nat → Value} {N : Nat → Nat} {Y : Nat → List UInt8} (h : ∀ k, k < K → w.ownsRow B 5 1 (V k) (N k) (bv (Y k))) {k : Nat} (hk : k ≤ K) : ∀ v ∈ (List.range k).map V, v.oneCell' = true := by
  intro v hv
  obtain ⟨j, hj, rfl⟩ := List.mem_map.1 hv
  obtain ⟨A, c, e, -, -⟩ := own_form4 (h j (by have := List.mem_range.1 hj; omega))
  rw [e]
  rfl

set_option maxRecDepth 8000 in
set_option maxHeartbeats 3200000 in
theorem putBytes_calls (w0 w : World) (P : Nat) (x : Value) (k n c : Nat) (A : Option Addr) (V : Nat → Value) (h : Bg w0 w P x k V) (hk : k ≤ 1000) (hV : V k = .slice A n c) :
    Calls Try.prog 36 #[.pointer (some ⟨P, 0, none⟩), .slice A n c] w fun e w' => e = .returned (.tuple #[]) ∧ ∃ x', Bg w0 w' P x' (k + 1) V := by
  obtain ⟨i1, hi1, hy0, hy1, hy2⟩ := info_parts info_sl8
  have HB := Lib.hid h
  have hb4 := (bag_cells h.bag).2.2.2.2.1
  have HV := Lib.hid hV
  obtain ⟨A0, c0, hx0, -, -⟩ := own_form4 h.own
  have HX0 := Lib.hid hx0
  have hsrc : ∀ (t : TypeId) (j : Nat) (u : Value), [Value.slice A n c][j]? = some u → (w.alloc (.cells #[.slice A n c] t)).cell? ((⟨w.heap.size, 0, none⟩ : Addr).add j) = some u := fun t j u hj => by
    obtain ⟨ad, g1, g2⟩ := src_block w #[.slice A n c] t [.slice A n c] rfl
    cases g1
    exact g2 j u hj
  have HSRC := Lib.hid hsrc
  clear h hV hsrc hx0
  go_enter Try.func36, Try.ntmps36
  go_wp2_with (at_builtin; go_loud (refine wpList_append_src _ rfl _ _ 34 rfl w0.heap.size 22 i1 (.slice none 0 0) 1 24 Try.underlying34 hi1 hy0 hy1 hy2 rfl (by decide) x k ((List.range k).map V) rfl (HB.out.own.alloc _) _ 1 _ [.slice A n c] rfl rfl (fun _ => ⟨_, rfl, HSRC.out _⟩) (by intro v hv; simp at hv; subst hv; rfl) (by unfold maxLen; omega) (by omega) (by have := HB.out.fr.size; simp; omega) ?_))
  intro x' w1 hA
  have hPw := Lib.lt_of_heap HB.out.bag
  have hbag1 := hA.fr.at_ (((Fr.refl NoB w).alloc (.cells #[.slice A n c] 22)).at_ HB.out.bag (fun x => x)) (fun e => HB.out.ne e)
  have hne1 : x'.ownBlock ≠ some P := by
    rcases hA.at_ with e | e
    · rw [e]; exact HB.out.ne
    · rw [e]
      intro e2
      cases e2
      simp at hPw
      omega
  have hfr1 : Fr NoB w0 w1 := (HB.out.fr.alloc _).trans hA.fr fun g hg hx => absurd (HB.out.own.lt g hx).1 (by omega)
  have hown1 := hA.own
  have BG : Bg w0 (w1.setCell ⟨P, 4, none⟩ x') P x' (k + 1) V :=
    ⟨hfr1.setCell (p := ⟨P, 4, none⟩) (fun e => absurd HB.out.hP (by simp only at e; omega)) x', by rw [heap_set hbag1]; rfl, own_keep (by rw [List.range_succ, List.map_append, List.map_cons, List.map_nil, HV.out]; exact hown1) fun g hg => Below.heap_setCell _ _ _ _ (fun e => hne1 (by rw [hg]; exact congrArg some e)), HB.out.hP, hne1⟩
  have HBG := Lib.hid BG
  have hb41 := (cells_of hbag1 4).1
  have hz41 := (cells_of hbag1 4).2
  rw [show (bagC x)[4]? = some x from rfl, HX0.out] at hb41
  obtain ⟨A1, c1, hx1, -, -⟩ := own_form4 hown1
  subst hx1
  clear hA hbag1 hne1 hfr1 hown1 BG hb4 HSRC
  go_wp2
  go_end0
  exact ⟨rfl, _, HBG.out⟩

set_option maxRecDepth 8000 in
set_option maxHeartbeats 3200000 in
/-- Rows of bytes of one's own, no two in one block, lie apart. -/
theorem apartb_calls (A : Option Addr) (K cA B : Nat) (V : Nat → Value) (N : Nat → Nat) (Y0 : Nat → List UInt8) (w : World) (hls : ∃ b o, A = some ⟨b, o, none⟩ ∧ b < w.heap.size ∧ ∀ k, k < K → w.cell? ⟨b, o + k, none⟩ = some (V k)) (hown : ∀ k, k < K → w.ownsRow B 5 1 (V k) (N k) (bv (Y0 k)))
    (hD : ∀ i j, i < K → j < K → i ≠ j → ∀ g, (V i).ownBlock = some g → (V j).ownBlock ≠ some g) (hB : B ≤ w.heap.size) (hK0 : 0 < K) (hK : K ≤ 1000) (hN : ∀ k, k < K → N k ≤ 100000000000000) :
    Calls Try.prog 17 #[.slice A K cA] w fun e w' => e = .returned (.bool true) ∧ Fr (fun g => ∃ k, k < K ∧ (V k).ownBlock = some g) w w' ∧ ∀ k, k < K → w'.ownsRow B 5 1 (V k) (N k) (bv (mks k (N k))) := by
  obtain ⟨b, o, rfl, hbw, hcs⟩ := hls
  have hKi : (K : Int) ≤ 1000 := by omega
  have HO := Lib.hid hown
  have HD := Lib.hid hD
  have HN := Lib.hid hN
  have HCS := Lib.hid hcs
  clear hown hD hN hcs
  go_enter Try.func17, Try.ntmps17
  go_wp2
  go_loopw [4] (fun s4 wr => ∃ (k : Nat) (x : Value), k ≤ K ∧ s4 = .int .i64 (k : Int) ∧ Bg w wr w.heap.size x k V) (fun s4 _ => K - (intOf s4).toNat)
  case atStart => exact ⟨0, .slice none 0 0, Nat.zero_le _, rfl, (Fr.refl NoB w).alloc _, heap_alloc_new w _, World.ownsRow_nil _ _ _ _, Nat.le_refl _, fun hx => by cases hx⟩
  case round =>
    obtain ⟨k, x, hk, rfl, hbg⟩ := hrel
    have BG := Lib.hid hbg
    clear hbg
    by_cases hlt : k < K
    · have hki : (k : Int) < (K : Int) := by omega
      obtain ⟨Ak, ck, hV, -, -⟩ := own_form4 (HO.out k hlt)
      have hc := (BG.out.fr.cell (p := ⟨b, o + k, none⟩) hbw (fun x => x)).trans (HCS.out k hlt)
      rw [hV] at hc
      have HV := Lib.hid hV
      clear hV
      go_wp2_with (fail)
      refine (putBytes_calls w _ _ x k (N k) ck Ak V BG.out (by omega) HV.out).mono ?_
      rintro e w2 ⟨rfl, x', h2⟩
      have BG2 := Lib.hid h2
      clear h2 hc BG
      go_wp2
      go_roundw
      case rel => exact ⟨k + 1, x', by omega, by go_num, BG2.out⟩
      case measure => simp [intOf]; omega
    · obtain rfl : k = K := by omega
      obtain ⟨L, cL, hx, hLb, -⟩ := BG.out.own.form hK0
      have hVw : ∀ i, i < k → ∀ g, (V i).ownBlock = some g → g < w.heap.size := fun i hi g hg => ((HO.out i hi).lt g hg).2
      subst hx
      have hlay : Lay wr B k L cL V N Y0 := ⟨own_base BG.out.own hB, fun i hi => own_keep (HO.out i hi) fun g hg => BG.out.fr.block g (hVw i hi g hg) (fun x => x)⟩
      have hfar : Far k L V := ⟨HD.out, fun i hi hx => by have := hVw i hi L hx; omega⟩
      have HAP := Lib.hid (apart_calls B k L cL w.heap.size V N Y0 wr hlay hfar (Nat.le_trans hB BG.out.fr.size) hK HN.out (fun g => ∃ i, i < k ∧ (V i).ownBlock = some g) (fun i hi g hg => ⟨i, hi, hg⟩) BG.out.bag (fun ⟨i, hi, hg⟩ => by have := hVw i hi _ hg; omega))
      clear hlay hfar hVw hlt hk
      go_wp2_with (fail)
      refine HAP.out.mono ?_
      rintro e w2 ⟨rfl, f2, hkp⟩
      have KP := Lib.hid hkp
      clear hkp
      have F2 := Lib.hid ((BG.out.fr.no (M := fun g => ∃ i, i < k ∧ (V i).ownBlock = some g)).then f2)
      clear f2
      go_wp2
      go_ret
      exact ⟨rfl, F2.out, KP.out⟩

end Go.Proofs.Ytmgkenbfjlahpaa

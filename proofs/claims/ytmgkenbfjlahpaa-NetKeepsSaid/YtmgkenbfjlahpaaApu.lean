/-
  Apu: flatBytes: rows of bytes that lie apart are found to lie apart.
-/
import Derived.Test.YtmgkenbfjlahpaaApt
namespace Go.Proofs.Ytmgkenbfjlahpaa
open Go.RowKit

theorem info_sl8 : (Try.prog.info? 22).map (fun i => (i.zero, i.size, i.bytes)) = some (some (.slice none 0 0), 1, 24) := by kernel_rfl
/-- K rows of bytes, and the list of them. -/
structure Lay (w : World) (B K L cL : Nat) (V : Nat → Value) (N : Nat → Nat) (Y : Nat → List UInt8) : Prop where
  ls : w.ownsRow B 22 1 (.slice (some ⟨L, 0, none⟩) K cL) K ((List.range K).map V)
  own : ∀ k, k < K → w.ownsRow B 5 1 (V k) (N k) (bv (Y k))
/-- The rows lie apart, from one another and from the list of them. -/
structure Far (K L : Nat) (V : Nat → Value) : Prop where
  d : ∀ i j, i < K → j < K → i ≠ j → ∀ g, (V i).ownBlock = some g → (V j).ownBlock ≠ some g
  l : ∀ i, i < K → (V i).ownBlock ≠ some L
theorem range_at {α : Type} (f : Nat → α) {K k : Nat} (h : k < K) : ((List.range K).map f)[k]? = some (f k) := by simp [h]
theorem range_set {α : Type} (f : Nat → α) (K k : Nat) (u : α) : ((List.range K).map f).set k u = (List.range K).map (fun j => if j = k then u else f j) := by
  apply List.ext_getElem?
  intro j
  rw [List.getElem?_set]
  by_cases hj : k = j
  · subst hj
    by_cases hk : k < K
    · simp [hk]
    · simp [hk]
  · rw [if_neg hj]
    by_cases hk : j < K
    · rw [range_at f hk, range_at _ hk, if_neg (fun x => hj x.symm)]
    · rw [List.getElem?_eq_none (by simp; omega), List.getElem?_eq_none (by simp; omega)]
section
variable {w w' : World} {B K L cL : Nat} {V : Nat → Value} {N : Nat → Nat} {Y : Nat → List UInt8}
theorem Lay.at_ (h : Lay w B K L cL V N Y) {k : Nat} (hk : k < K) : w.cell? ⟨L, k, none⟩ = some (V k) := (own_cell h.ls (range_at V hk)).1
theorem Lay.fr {M : Nat → Prop} (h : Lay w B K L cL V N Y) (f : Fr M w w') (hl : ¬ M L) (hv : ∀ k, k < K → ∀ g, (V k).ownBlock = some g → ¬ M g) : Lay w' B K L cL V N Y :=
  ⟨own_keep h.ls fun g hg => by cases hg; exact f.block L (h.ls.lt L rfl).2 hl, fun k hk => own_keep (h.own k hk) fun g hg => f.block g ((h.own k hk).lt g hg).2 (hv k hk g hg)⟩
theorem Lay.set (h : Lay w B K L cL V N Y) (hF : Far K L V) {k g c i : Nat} (hk : k < K) (hV : V k = .slice (some ⟨g, 0, none⟩) (N k) c) (hi : i < N k) (x : UInt8) : Lay (w.setCell ⟨g, i, none⟩ (.int .u8 (x.toNat : Int))) B K L cL V N (fun j => if j = k then (Y k).set i x else Y j) := by
  have hgL : L ≠ g := fun e => hF.l k hk (by rw [hV, e]; rfl)
  refine ⟨own_keep h.ls fun g' hg => by cases hg; exact Below.heap_setCell _ _ _ _ hgL, fun j hj => ?_⟩
  by_cases hjk : j = k
  · subst hjk
    rw [if_pos rfl, ← bv_set, hV]
    exact own_set (by rw [← hV]; exact h.own j hj)
  · rw [if_neg hjk]
    exact own_keep (h.own j hj) fun g' hg => Below.heap_setCell _ _ _ _ (fun e => hF.d j k hj hk hjk g' hg (by rw [hV]; subst e; rfl))
theorem Lay.congr {Y' : Nat → List UInt8} (h : Lay w B K L cL V N Y) (e : ∀ k, k < K → Y k = Y' k) : Lay w B K L cL V N Y' := ⟨h.ls, fun k hk => by rw [← e k hk]; exact h.own k hk⟩
theorem Lay.len (h : Lay w B K L cL V N Y) {k : Nat} (hk : k < K) : (Y k).length = N k := by
  have := (h.own k hk).1
  simpa using this
end

/-- What the call holds while it grows the rows: the first k are grown, to U, with Z in them; behind those stands Df. -/
structure Grw (w : World) (B K L cL GS : Nat) (V : Nat → Value) (N : Nat → Nat) (U Df : Nat → Value) (Z : Nat → List UInt8) (k : Nat) : Prop where
  lay : Lay w B K L cL V N (fun j => mks j (N j))
  gs : w.ownsRow B 22 1 (.slice (some ⟨GS, 0, none⟩) K K) K ((List.range K).map fun j => if j < k then U j else Df j)
  us : ∀ j, j < k → w.ownsRow B 5 1 (U j) (N j + 64) (bv (Z j))
  ub : ∀ j, j < k → ∀ g, (U j).ownBlock = some g → g ≠ L ∧ g ≠ GS ∧ ∀ i, i < K → i ≠ j → (V i).ownBlock ≠ some g
section
variable {w w' : World} {B K L cL GS : Nat} {V : Nat → Value} {N : Nat → Nat} {U Df : Nat → Value} {Z : Nat → List UInt8} {k : Nat}
theorem Grw.frk {M : Nat → Prop} (h : Grw w B K L cL GS V N U Df Z k) (f : Fr M w w') (q : Nat) (hq : q < K → w'.ownsRow B 5 1 (V q) (N q) (bv (mks q (N q)))) (hl : ¬ M L) (hg : ¬ M GS) (hv : ∀ i, i < K → i ≠ q → ∀ g, (V i).ownBlock = some g → ¬ M g) (hu : ∀ j, j < k → ∀ g, (U j).ownBlock = some g → ¬ M g) : Grw w' B K L cL GS V N U Df Z k where
  lay := ⟨own_keep h.lay.ls fun g hx => by cases hx; exact f.block L (h.lay.ls.lt L rfl).2 hl, fun i hi => by
    by_cases hiq : i = q
    · subst hiq; exact hq hi
    · exact own_keep (h.lay.own i hi) fun g hx => f.block g ((h.lay.own i hi).lt g hx).2 (hv i hi hiq g hx)⟩
  gs := own_keep h.gs fun g hx => by cases hx; exact f.block GS (h.gs.lt GS rfl).2 hg
  us := fun j hj => own_keep (h.us j hj) fun g hx => f.block g ((h.us j hj).lt g hx).2 (hu j hj g hx)
  ub := h.ub
theorem Grw.fr (h : Grw w B K L cL GS V N U Df Z k) (f : Fr NoB w w') : Grw w' B K L cL GS V N U Df Z k :=
  h.frk f K (fun hx => absurd hx (Nat.lt_irrefl K)) (fun x => x) (fun x => x) (fun _ _ _ _ _ x => x) (fun _ _ _ _ x => x)
theorem Grw.at_ (h : Grw w B K L cL GS V N U Df Z k) {j : Nat} (hj : j < K) : w.cell? ⟨GS, j, none⟩ = some (if j < k then U j else Df j) ∧ w.frozen? ⟨GS, j, none⟩ = false := own_cell h.gs (range_at _ hj)
/-- Row k is grown. -/
theorem Grw.put (h : Grw w B K L cL GS V N U Df Z k) (hk : k < K) (hVG : ∀ i, i < K → (V i).ownBlock ≠ some GS) (hLG : L ≠ GS) {u : Value} (hu : w.ownsRow B 5 1 u (N k + 64) (bv (Z k))) (hb : ∀ g, u.ownBlock = some g → g ≠ L ∧ g ≠ GS ∧ ∀ i, i < K → i ≠ k → (V i).ownBlock ≠ some g) :
    Grw (w.setCell ⟨GS, k, none⟩ u) B K L cL GS V N (fun j => if j = k then u else U j) Df Z (k + 1) where
  lay := ⟨own_keep h.lay.ls fun g hx => by cases hx; exact Below.heap_setCell _ _ _ _ hLG, fun i hi => own_keep (h.lay.own i hi) fun g hx => Below.heap_setCell _ _ _ _ (fun e => hVG i hi (by rw [hx]; exact congrArg some e))⟩
  gs := by
    have h1 := own_set h.gs (i := k) (u := u)
    rw [range_set] at h1
    have e : (fun j => if j = k then u else if j < k then U j else Df j) = (fun j => if j < k + 1 then (if j = k then u else U j) else Df j) := by
      funext j
      by_cases hj : j = k
      · subst hj; simp
      · by_cases hjk : j < k
        · simp [hj, hjk, show j < k + 1 by omega]
        · simp [hj, hjk, show ¬ j < k + 1 by omega]
    rw [e] at h1
    exact h1
  us := fun j hj => by
    by_cases hjk : j = k
    · subst hjk
      rw [if_pos rfl]
      exact own_keep hu fun g hx => Below.heap_setCell _ _ _ _ (fun e => (hb g hx).2.1 e)
    · rw [if_neg hjk]
      exact own_keep (h.us j (by omega)) fun g hx => Below.heap_setCell _ _ _ _ (fun e => (h.ub j (by omega) g hx).2.1 e)
  ub := fun j hj => by
    by_cases hjk : j = k
    · subst hjk
      rw [if_pos rfl]
      exact hb
    · rw [if_neg hjk]
      exact h.ub j (by omega)
end

theorem mks_of {l : List UInt8} {k n : Nat} (hl : l.length = n) (h : ∀ i, i < n → l[i]? = some (mb k i)) : l = mks k n := by
  apply List.ext_getElem?
  intro j
  by_cases hj : j < n
  · rw [h j hj, mks_get hj]
  · rw [List.getElem?_eq_none (by omega), List.getElem?_eq_none (by simp; omega)]
theorem bv_len_own {w : World} {B n : Nat} {t : TypeId} {v : Value} {l : List UInt8} (h : w.ownsRow B t 1 v n (bv l)) : l.length = n := by
  have := h.1
  simpa using this

/-- How the row under way lies: as row q, or in a block of its own. -/
def Alt (H n i : Nat) (Vq g : Value) : Prop := (i = 0 ∧ g = Vq) ∨ (∃ gk cap, Vq = .slice (some ⟨gk, 0, none⟩) n cap ∧ g = .slice (some ⟨gk, 0, none⟩) (n + i) cap) ∨ ∃ b, g.ownBlock = some b ∧ H ≤ b
theorem alt_far {K L GS H n i q : Nat} {V : Nat → Value} {g : Value} (hF : Far K L V) (hq : q < K) (hVG : ∀ i, i < K → (V i).ownBlock = some GS → False) (hVH : ∀ i, i < K → ∀ g, (V i).ownBlock = some g → g < H) (hLH : L < H) (hGH : GS < H) (ha : Alt H n i (V q) g) :
    ∀ g', g.ownBlock = some g' → g' ≠ L ∧ g' ≠ GS ∧ ∀ i, i < K → i ≠ q → (V i).ownBlock ≠ some g' := fun g' hg' => by
  have hv : (V q).ownBlock = some g' → g' ≠ L ∧ g' ≠ GS ∧ ∀ i, i < K → i ≠ q → (V i).ownBlock ≠ some g' := fun hx =>
    ⟨fun e => hF.l q hq (e ▸ hx), fun e => hVG q hq (e ▸ hx), fun i hi hiq hy => hF.d i q hi hq hiq g' hy hx⟩
  rcases ha with ⟨_, rfl⟩ | ⟨gk, cap, h1, rfl⟩ | ⟨b, h1, h2⟩
  · exact hv hg'
  · exact hv (by rw [h1]; exact hg')
  · rw [h1] at hg'
    cases hg'
    exact ⟨by omega, by omega, fun i hi _ hx => by have := hVH i hi _ hx; omega⟩
theorem grow_step {wA w3 : World} {M2 : Nat → Prop} {B K L cL GS H n i m q : Nat} {V : Nat → Value} {N : Nat → Nat} {U Df : Nat → Value} {Z : Nat → List UInt8} {g v' : Value} {news : List Value} (hG : Grw wA B K L cL GS V N U Df Z q) (hq : q < K) (hF : Far K L V) (hVG : ∀ i, i < K → (V i).ownBlock = some GS → False) (hn : N q = n)
    (ha : Alt H n i (V q) g) (hVH : ∀ i, i < K → ∀ g, (V i).ownBlock = some g → g < H) (hUH : ∀ j, j < q → ∀ g, (U j).ownBlock = some g → g < H) (hLH : L < H) (hGH : GS < H) (hMV : ∀ g, (V q).ownBlock = some g → M2 g) (hMH : ∀ g, H ≤ g → M2 g)
    (hown3 : w3.ownsRow B 5 1 v' (n + i + m) (bv (mks q (n + i)) ++ news))
    (hcase : (∃ g0 cap, g = .slice (some ⟨g0, 0, none⟩) (n + i) cap ∧ v' = .slice (some ⟨g0, 0, none⟩) (n + i + m) cap ∧ Fr (OneB g0) wA w3) ∨ (∃ b, v'.ownBlock = some b ∧ H ≤ b ∧ Fr NoB wA w3)) :
    Grw w3 B K L cL GS V N U Df Z q ∧ Alt H n (i + m) (V q) v' ∧ Fr M2 wA w3 := by
  rcases hcase with ⟨g0, cap, hg, hv', f⟩ | ⟨b0, hv', hb0, f⟩
  · have fB : M2 g0 → Fr M2 wA w3 := fun hx => f.mono fun k _ hk => by simp only [OneB] at hk; subst hk; exact hx
    have hA : V q = .slice (some ⟨g0, 0, none⟩) n cap → Grw w3 B K L cL GS V N U Df Z q ∧ Alt H n (i + m) (V q) v' ∧ Fr M2 wA w3 := fun hVq => by
      have hb : (V q).ownBlock = some g0 := by rw [hVq]; rfl
      refine ⟨hG.frk f q (fun _ => ?_) (fun e => hF.l q hq (by rw [hb]; exact congrArg some e.symm)) (fun e => hVG q hq (by rw [hb]; exact congrArg some e.symm)) (fun i hi hiq g' hg' e => hF.d i q hi hq hiq g' hg' (by rw [hb]; exact congrArg some e.symm)) (fun j hj g' hg' e => (hG.ub j hj g' hg').2.2 q hq (by omega) (by rw [hb]; exact congrArg some e.symm)), .inr (.inl ⟨g0, cap, hVq, by rw [hv', Nat.add_assoc]⟩), fB (hMV g0 hb)⟩
      rw [hVq, hn]
      rw [hv'] at hown3
      have := own_prefix hown3 (m := n) (by omega)
      rwa [List.take_append_of_le_length (by simp), ← bv_take, mks_take (by omega)] at this
    rcases ha with ⟨rfl, rfl⟩ | ⟨gk, cap', h1, h2⟩ | ⟨b, h1, h2⟩
    · exact hA (by rw [hg]; rfl)
    · rw [h2] at hg
      cases hg
      exact hA h1
    · rw [hg] at h1
      cases h1
      have h2' : H ≤ g0 := h2
      refine ⟨hG.frk f K (fun hx => absurd hx (Nat.lt_irrefl K)) (fun e => ?_) (fun e => ?_) (fun i hi _ g' hg' e => ?_) (fun j hj g' hg' e => ?_), .inr (.inr ⟨g0, by rw [hv']; rfl, h2⟩), fB (hMH g0 h2')⟩
      · simp only [OneB] at e; omega
      · simp only [OneB] at e; omega
      · have := hVH i hi g' hg'; simp only [OneB] at e; omega
      · have := hUH j hj g' hg'; simp only [OneB] at e; omega
  · exact ⟨hG.fr f, .inr (.inr ⟨b0, hv', hb0⟩), f.no⟩

set_option maxRecDepth 8000 in
set_option maxHeartbeats 6400000 in
theorem flatb_calls (B K L cL : Nat) (V : Nat → Value) (N : Nat → Nat) (Y0 : Nat → List UInt8) (w : World) (h : Lay w B K L cL V N Y0) (hF : Far K L V) (hB : B ≤ w.heap.size) (hK : K ≤ 1000) (hN : ∀ k, k < K → N k ≤ 100000000000000) (M : Nat → Prop) (hMV : ∀ k, k < K → ∀ g, (V k).ownBlock = some g → M g) :
    Calls Try.prog 51 #[.slice (some ⟨L, 0, none⟩) K cL] w fun e w' => e = .returned (.bool true) ∧ Fr M w w' ∧ ∀ k, k < K → w'.ownsRow B 5 1 (V k) (N k) (bv (mks k (N k))) := by
  obtain ⟨M2, hM2⟩ : ∃ M2 : Nat → Prop, M2 = fun g => M g ∨ w.heap.size ≤ g := ⟨_, rfl⟩
  have HMV := Lib.hid (fun k (hk : k < K) g (hg : (V k).ownBlock = some g) => (show M2 g by rw [hM2]; exact .inl (hMV k hk g hg)))
  have HMW := Lib.hid (fun g (hg : w.heap.size ≤ g) => (show M2 g by rw [hM2]; exact .inr hg))
  have HME := Lib.hid (fun W (f : Fr M2 w W) => f.mono (N := M) fun k hk hx => by rw [hM2] at hx; exact hx.elim id (fun h => absurd h (by omega)))
  clear hMV hM2
  have hKi : (K : Int) ≤ 1000 := by omega
  have HN := Lib.hid hN
  have HFar := Lib.hid hF
  have HMB := Lib.hid (fun (k i : Nat) (hk : k ≤ 4000) (hi : i ≤ 281474976710656) W => markb2_calls k i hk hi W)
  have HL0 := Lib.hid h
  have HBL := Lib.hid (h.ls.lt L rfl).1
  have HVB := Lib.hid (fun k (hk : k < K) g (hg : (V k).ownBlock = some g) => ((h.own k hk).lt g hg).1)
  clear h hN hF
  go_enter Try.func51, Try.ntmps51
  go_wp2
  go_loopw [3, 4] (fun s3 _ wr => ∃ (k : Nat) (Y : Nat → List UInt8), k ≤ K ∧ s3 = .int .i64 (k : Int) ∧ Lay wr B K L cL V N Y ∧ (∀ j, j < k → Y j = mks j (N j)) ∧ Fr M2 w wr) (fun s3 _ _ => K - (intOf s3).toNat)
  case atStart => exact ⟨0, Y0, Nat.zero_le _, rfl, HL0.out, fun j hj => by omega, Fr.refl _ w⟩
  case round =>
    obtain ⟨k, Y, hk, rfl, hlay, hY, hf⟩ := hrel
    have LY := Lib.hid hlay
    have HY := Lib.hid hY
    have FR := Lib.hid hf
    clear hlay hY hf HL0
    by_cases hlt : k < K
    · have hki : (k : Int) < (K : Int) := by omega
      obtain ⟨A, c, hV, hnc, hcm⟩ := own_form4 (LY.out.own k hlt)
      have HV := Lib.hid hV
      have hnk := HN.out k hlt
      obtain ⟨n, hn⟩ : ∃ n, N k = n := ⟨_, rfl⟩
      have HNK := Lib.hid hn
      rw [hn] at hnk hnc
      have hni : (n : Int) ≤ 100000000000000 := by omega
      obtain ⟨wo, hwo⟩ : ∃ wo : World, wo = wr := ⟨_, rfl⟩
      clear hV hn
      go_wp2
      go_loopw [4] (fun s4 wx => ∃ (i : Nat) (Y2 : Nat → List UInt8), i ≤ n ∧ s4 = .int .i64 (i : Int) ∧ Lay wx B K L cL V N Y2 ∧ (∀ j, j < k → Y2 j = mks j (N j)) ∧ (∀ i', i' < i → (Y2 k)[i']? = some (mb k i')) ∧ Fr M2 w wx) (fun s4 _ => n - (intOf s4).toNat)
      case atStart => exact ⟨0, Y, Nat.zero_le _, rfl, LY.out, HY.out, fun i' hi' => by omega, FR.out⟩
      case round =>
        obtain ⟨i, Y2, hi, rfl, hlay, hY2, hY3, hf⟩ := hrel
        have LY2 := Lib.hid hlay
        have HY2 := Lib.hid hY2
        have HY3 := Lib.hid hY3
        have FR2 := Lib.hid hf
        clear hlay hY2 hY3 hf
        have hls := LY2.out.at_ hlt
        rw [HV.out, HNK.out] at hls
        by_cases hli : i < n
        · have hii : (i : Int) < (n : Int) := by omega
          obtain ⟨g, cap, hVg, hgb, -⟩ := (LY2.out.own k hlt).form (by rw [HNK.out]; omega)
          have hVk := hVg
          rw [HV.out] at hVk
          cases hVk
          have HVG := Lib.hid hVg
          have hyl := LY2.out.len hlt
          have hcell := own_cell (w := wr) (g := g) (i := i) (u := .int .u8 (((Y2 k).getD i 0).toNat : Int)) (by rw [← hVg]; exact LY2.out.own k hlt) (bv_get _ i (by rw [hyl, HNK.out]; exact hli))
          have HCELL := Lib.hid hcell
          have HLS := Lib.hid hls
          have HM := Lib.hid (fun W => HMB.out k i (by omega) (by omega) W)
          clear hVg hyl hcell
          go_wp2
          refine wp_region_held_drew (S := fun W => W.cell? ⟨L, k, none⟩ = some (.slice (some ⟨g, 0, none⟩) n c)) (by kernel_rfl) HLS.out (fun hHeld => ?_)
          first | (refine wpAnyH_take (i := 0) (v := undef) (by simp only [List.getElem?_toArray, List.getElem?_cons_zero]; rfl) (by kernel_rfl) (by kernel_rfl) (by kernel_rfl) (by exact fun _ _ _ h => h) (Or.inr ⟨by rfl, rfl⟩) (by assumption) ?_) | (refine wpAnyH_take (i := 0) (v := ?_) (by simp only [List.getElem?_toArray, List.getElem?_cons_zero]; rfl) (by kernel_rfl) (by kernel_rfl) (by kernel_rfl) (by exact fun _ _ _ h => h) (Or.inl ⟨by rfl, ?_⟩) (by assumption) ?_; rotate_left; · (intro w hSw; (try dsimp only at hSw); go_simp; (try with_reducible rfl)))
          try simp only [Act.put, List.setIfInBounds_toArray, List.set_cons_zero, List.set_cons_succ]
          first | (refine wpAnyH_take (i := 1) (v := undef) (by simp only [List.getElem?_toArray, List.getElem?_cons_succ, List.getElem?_cons_zero]; rfl) (by kernel_rfl) (by kernel_rfl) (by kernel_rfl) (by exact fun _ _ _ h => h) (Or.inr ⟨by rfl, rfl⟩) (by assumption) ?_) | (refine wpAnyH_take (i := 1) (v := ?_) (by simp only [List.getElem?_toArray, List.getElem?_cons_succ, List.getElem?_cons_zero]; rfl) (by kernel_rfl) (by kernel_rfl) (by kernel_rfl) (by exact fun _ _ _ h => h) (Or.inl ⟨by rfl, ?_⟩) (by assumption) ?_; rotate_left; · (intro w hSw; (try dsimp only at hSw); go_simp; (try with_reducible rfl)))
          try simp only [Act.put, List.setIfInBounds_toArray, List.set_cons_zero, List.set_cons_succ]
          first | (refine wpAnyH_take (i := 2) (v := undef) (by simp only [List.getElem?_toArray, List.getElem?_cons_succ, List.getElem?_cons_zero]; rfl) (by kernel_rfl) (by kernel_rfl) (by kernel_rfl) (by exact fun _ _ _ h => h) (Or.inr ⟨by rfl, rfl⟩) (by assumption) ?_) | (refine wpAnyH_take (i := 2) (v := ?_) (by simp only [List.getElem?_toArray, List.getElem?_cons_succ, List.getElem?_cons_zero]; rfl) (by kernel_rfl) (by kernel_rfl) (by kernel_rfl) (by exact fun _ _ _ h => h) (Or.inl ⟨by rfl, ?_⟩) (by assumption) ?_; rotate_left; · (intro w hSw; (try dsimp only at hSw); go_simp; (try with_reducible rfl)))
          try simp only [Act.put, List.setIfInBounds_toArray, List.set_cons_zero, List.set_cons_succ]
          first | (refine wpAnyH_take (i := 3) (v := undef) (by simp only [List.getElem?_toArray, List.getElem?_cons_succ, List.getElem?_cons_zero]; rfl) (by kernel_rfl) (by kernel_rfl) (by kernel_rfl) (by exact fun _ _ _ h => h) (Or.inr ⟨by rfl, rfl⟩) (by assumption) ?_) | (refine wpAnyH_take (i := 3) (v := ?_) (by simp only [List.getElem?_toArray, List.getElem?_cons_succ, List.getElem?_cons_zero]; rfl) (by kernel_rfl) (by kernel_rfl) (by kernel_rfl) (by exact fun _ _ _ h => h) (Or.inl ⟨by rfl, ?_⟩) (by assumption) ?_; rotate_left; · (intro w hSw; (try dsimp only at hSw); go_simp; (try with_reducible rfl)))
          try simp only [Act.put, List.setIfInBounds_toArray, List.set_cons_zero, List.set_cons_succ]
          first | (refine wpAnyH_take (i := 4) (v := undef) (by simp only [List.getElem?_toArray, List.getElem?_cons_succ, List.getElem?_cons_zero]; rfl) (by kernel_rfl) (by kernel_rfl) (by kernel_rfl) (by exact fun _ _ _ h => h) (Or.inr ⟨by rfl, rfl⟩) (by assumption) ?_) | (refine wpAnyH_take (i := 4) (v := ?_) (by simp only [List.getElem?_toArray, List.getElem?_cons_succ, List.getElem?_cons_zero]; rfl) (by kernel_rfl) (by kernel_rfl) (by kernel_rfl) (by exact fun _ _ _ h => h) (Or.inl ⟨by rfl, ?_⟩) (by assumption) ?_; rotate_left; · (intro w hSw; (try dsimp only at hSw); go_simp; (try with_reducible rfl)))
          try simp only [Act.put, List.setIfInBounds_toArray, List.set_cons_zero, List.set_cons_succ]
          first | (refine wpAnyH_take (i := 5) (v := undef) (by simp only [List.getElem?_toArray, List.getElem?_cons_succ, List.getElem?_cons_zero]; rfl) (by kernel_rfl) (by kernel_rfl) (by kernel_rfl) (by exact fun _ _ _ h => h) (Or.inr ⟨by rfl, rfl⟩) (by assumption) ?_) | (refine wpAnyH_take (i := 5) (v := ?_) (by simp only [List.getElem?_toArray, List.getElem?_cons_succ, List.getElem?_cons_zero]; rfl) (by kernel_rfl) (by kernel_rfl) (by kernel_rfl) (by exact fun _ _ _ h => h) (Or.inl ⟨by rfl, ?_⟩) (by assumption) ?_; rotate_left; · (intro w hSw; (try dsimp only at hSw); go_simp; (try with_reducible rfl)))
          try simp only [Act.put, List.setIfInBounds_toArray, List.set_cons_zero, List.set_cons_succ]
          first | (refine wpAnyH_take (i := 6) (v := undef) (by simp only [List.getElem?_toArray, List.getElem?_cons_succ, List.getElem?_cons_zero]; rfl) (by kernel_rfl) (by kernel_rfl) (by kernel_rfl) (by exact fun _ _ _ h => h) (Or.inr ⟨by rfl, rfl⟩) (by assumption) ?_) | (refine wpAnyH_take (i := 6) (v := ?_) (by simp only [List.getElem?_toArray, List.getElem?_cons_succ, List.getElem?_cons_zero]; rfl) (by kernel_rfl) (by kernel_rfl) (by kernel_rfl) (by exact fun _ _ _ h => h) (Or.inl ⟨by rfl, ?_⟩) (by assumption) ?_; rotate_left; · (intro w hSw; (try dsimp only at hSw); go_simp; (try with_reducible rfl)))
          try simp only [Act.put, List.setIfInBounds_toArray, List.set_cons_zero, List.set_cons_succ]
          refine wpAnyH_ready (rs := [7]) (by kernel_rfl) (by simp) ?_
          refine AllReadyH.cons rfl (fun KK hK => ?_) AllReadyH.nil
          go_simp
          refine (HM.out _).mono ?_
          rintro e w2 ⟨rfl, f2⟩
          have F2 := Lib.hid ((Fr.refl NoB wr).drew.then f2)
          clear f2
          go_wp2_with (fail)
          have LYW := Lib.hid (LY2.out.fr F2.out (fun x => x) (fun _ _ _ _ x => x))
          have hls2 := LYW.out.at_ hlt
          rw [HV.out, HNK.out] at hls2
          have HLS2 := Lib.hid hls2
          refine hK.out _ _ HLS2.out (fun hHeld2 => ?_)
          clear hK KK
          try simp only [Act.put, List.setIfInBounds_toArray, List.set_cons_zero, List.set_cons_succ]
          first | (refine wpAnyH_take (i := 8) (v := undef) (by simp only [List.getElem?_toArray, List.getElem?_cons_succ, List.getElem?_cons_zero]; rfl) (by kernel_rfl) (by kernel_rfl) (by kernel_rfl) (by exact fun _ _ _ h => h) (Or.inr ⟨by rfl, rfl⟩) (by assumption) ?_) | (refine wpAnyH_take (i := 8) (v := ?_) (by simp only [List.getElem?_toArray, List.getElem?_cons_succ, List.getElem?_cons_zero]; rfl) (by kernel_rfl) (by kernel_rfl) (by kernel_rfl) (by exact fun _ _ _ h => h) (Or.inl ⟨by rfl, ?_⟩) (by assumption) ?_; rotate_left; · (intro w hSw; (try dsimp only at hSw); go_simp; (try with_reducible rfl)))
          try simp only [Act.put, List.setIfInBounds_toArray, List.set_cons_zero, List.set_cons_succ]
          have hc2 := (F2.out.cell (p := ⟨g, i, none⟩) (Nat.lt_of_lt_of_le (World.block_lt_of_cell? wr _ HCELL.out.1) (Nat.le_refl _)) (fun x => x)).trans HCELL.out.1
          have hz2 := (F2.out.frozen (p := ⟨g, i, none⟩) (Nat.lt_of_lt_of_le (World.block_lt_of_cell? wr _ HCELL.out.1) (Nat.le_refl _)) (fun x => x)).trans HCELL.out.2
          refine wpAnyH_ready (rs := [9]) (by kernel_rfl) (by simp) ?_
          refine AllReadyH.cons rfl (fun KK hK => ?_) AllReadyH.nil
          go_simp
          have LY3 := Lib.hid (LYW.out.set HFar.out hlt HV.out (i := i) (by rw [HNK.out]; exact hli) (mb k i))
          have hls3 := LY3.out.at_ hlt
          rw [HV.out, HNK.out] at hls3
          refine hK.out _ _ hls3 (fun hHeld3 => ?_)
          clear hK KK
          try simp only [Act.put, List.setIfInBounds_toArray, List.set_cons_zero, List.set_cons_succ]
          refine wpAnyH_done (by kernel_rfl) ?_ _
          have hYn : ∀ i', i' < i + 1 → ((fun j => if j = k then (Y2 k).set i (mb k i) else Y2 j) k)[i']? = some (mb k i') := fun i' hi' => by
            simp only [if_true]
            rw [List.getElem?_set]
            by_cases hx : i = i'
            · subst hx
              rw [if_pos rfl, if_pos (by rw [LY2.out.len hlt, HNK.out]; exact hli)]
            · rw [if_neg hx]
              exact HY3.out i' (by omega)
          have HYN := Lib.hid hYn
          have FR3 := Lib.hid ((FR2.out.then F2.out.no).setCell (p := ⟨g, i, none⟩) (fun _ => HMV.out k hlt g (by rw [HVG.out]; rfl)) (.int .u8 ((mb k i).toNat : Int)))
          clear hYn hls3 hHeld3 hHeld2 hHeld hls2 hls hc2 hz2
          go_wp2
          go_roundw
          case rel => exact ⟨i + 1, _, by omega, by go_num, LY3.out, fun j hj => by rw [if_neg (by omega)]; exact HY2.out j hj, HYN.out, FR3.out⟩
          case measure => simp [intOf]; omega
        · obtain rfl : i = n := by omega
          have hyk : ∀ j, j < k + 1 → Y2 j = mks j (N j) := fun j hj => by
            by_cases hjk : j = k
            · subst hjk
              rw [HNK.out]
              exact mks_of (by rw [LY2.out.len hlt, HNK.out]) HY3.out
            · exact HY2.out j (by omega)
          have HYK := Lib.hid hyk
          clear hyk
          go_wp2
          go_roundw
          case rel => exact ⟨k + 1, Y2, by omega, by go_num, LY2.out, HYK.out, FR2.out⟩
          case measure => simp [intOf]; omega
    · obtain rfl : k = K := by omega
      have L1 := Lib.hid (LY.out.congr (fun j hj => HY.out j hj))
      clear LY HY hlt hk
      obtain ⟨i0, hi0, hz0, hz1, hz2⟩ := info_parts info_byte
      obtain ⟨i1, hi1, hy0, hy1, hy2⟩ := info_parts info_sl8
      obtain ⟨wa, hmk, hown, hgr⟩ := run_make_full (P := Try.prog) (w := wr) B 34 22 i1 (.slice none 0 0) 1 Try.underlying34 hi1 hy0 hy1 .i64 .i64 k (by rw [hy2]; omega) (by unfold maxLen; omega) (Nat.le_trans hB FR.out.size)
      rw [show (madeCells (Value.slice none 0 0).cells (k * 1)).toList = (List.range k).map (fun _ => Value.slice none 0 0) by rw [Nat.mul_one, show (Value.slice none 0 0).cells = #[.slice none 0 0] from rfl, toList_madeCells_one]; simp [List.map_const']] at hown
      have FA := Fr.ofGrown (M := NoB) hgr (fun _ _ hx => by cases hx)
      have HGS := Lib.hid (fun i (hi : i < k) => (fun (hx : (V i).ownBlock = some wr.heap.size) => Nat.lt_irrefl _ ((L1.out.own i hi).lt _ hx).2))
      have HLG := Lib.hid (Nat.ne_of_lt (L1.out.ls.lt L rfl).2)
      have HGW := Lib.hid FR.out.size
      have G0 : Grw wa B k L cL wr.heap.size V N (fun _ => .slice none 0 0) (fun _ => .slice none 0 0) (fun j => mks j (N j + 64)) 0 :=
        ⟨L1.out.fr FA (fun x => x) (fun _ _ _ _ x => x), by simpa using hown, fun j hj => by omega, fun j hj => by omega⟩
      have HG0 := Lib.hid G0
      have FRA := Lib.hid (FR.out.then FA.no)
      generalize wr.heap.size = GS at hmk HGS HLG HG0 HGW
      clear G0 hown hgr FA FR L1
      obtain ⟨wo, hwo⟩ : ∃ wo : World, wo = wr := ⟨_, rfl⟩
      go_wp2
      go_loopw [6, 7, 8] (fun s6 _ _ wx => ∃ (q : Nat) (U : Nat → Value), q ≤ k ∧ s6 = .int .i64 (q : Int) ∧ Grw wx B k L cL GS V N U (fun _ => .slice none 0 0) (fun j => mks j (N j + 64)) q ∧ Fr M2 w wx) (fun s6 _ _ _ => k - (intOf s6).toNat)
      case atStart => exact ⟨0, _, Nat.zero_le _, rfl, HG0.out, FRA.out⟩
      case round =>
        obtain ⟨q, U, hq, rfl, hgrw, hf⟩ := hrel
        have GW := Lib.hid hgrw
        have FR := Lib.hid hf
        clear hgrw hf hmk HG0 FRA
        by_cases hlt : q < k
        · have hqi : (q : Int) < (k : Int) := by omega
          obtain ⟨A, c, hV, hnc, hcm⟩ := own_form4 (GW.out.lay.own q hlt)
          have HV := Lib.hid hV
          have hnk := HN.out q hlt
          obtain ⟨n, hn⟩ : ∃ n, N q = n := ⟨_, rfl⟩
          have HNK := Lib.hid hn
          rw [hn] at hnk hnc
          have hni : (n : Int) ≤ 100000000000000 := by omega
          have hls := GW.out.lay.at_ hlt
          rw [HV.out, HNK.out] at hls
          obtain ⟨H, hH⟩ : ∃ H, wr.heap.size = H := ⟨_, rfl⟩
          have HVH := Lib.hid (fun i (hi : i < k) g (hg : (V i).ownBlock = some g) => (show g < H by rw [← hH]; exact ((GW.out.lay.own i hi).lt g hg).2))
          have HUH := Lib.hid (fun j (hj : j < q) g (hg : (U j).ownBlock = some g) => (show g < H by rw [← hH]; exact ((GW.out.us j hj).lt g hg).2))
          have HLH : Hid (L < H) := by rw [← hH]; exact (GW.out.lay.ls.lt L rfl).2
          have HGH : Hid (GS < H) := by rw [← hH]; exact (GW.out.gs.lt GS rfl).2
          have HBH : Hid (B ≤ H) := Nat.le_trans HBL.out (Nat.le_of_lt HLH.out)
          have HGQ := Lib.hid (show wr.ownsRow B 5 1 (.slice A n c) n (bv (mks q n)) by have h := GW.out.lay.own q hlt; rw [HV.out, HNK.out] at h; exact h)
          have HVN := Lib.hid (show V q = .slice A n c by rw [HV.out, HNK.out])
          have HHW := Lib.hid (Nat.le_of_eq hH.symm)
          clear hV hn hH HV
          obtain ⟨wo2, hwo2⟩ : ∃ wo : World, wo = wr := ⟨_, rfl⟩
          go_wp2
          go_loopw [7, 8] (fun s7 s8 wx => ∃ (i : Nat) (g : Value), i ≤ 64 ∧ s8 = .int .i64 (i : Int) ∧ g = s7 ∧ Grw wx B k L cL GS V N U (fun _ => .slice none 0 0) (fun j => mks j (N j + 64)) q ∧ wx.ownsRow B 5 1 g (n + i) (bv (mks q (n + i))) ∧ Alt H n i (V q) g ∧ Fr M2 w wx ∧ H ≤ wx.heap.size) (fun _ s8 _ => 64 - (intOf s8).toNat)
          case atStart => exact ⟨0, _, Nat.zero_le _, rfl, rfl, GW.out, HGQ.out, .inl ⟨rfl, HVN.out.symm⟩, FR.out, HHW.out⟩
          case round =>
            obtain ⟨i, g, hi, rfl, rfl, hgrw, hgo, halt, hf, hH⟩ := hrel
            have GX := Lib.hid hgrw
            have GO := Lib.hid hgo
            have AL := Lib.hid halt
            have FX := Lib.hid hf
            have HX := Lib.hid hH
            clear hgrw hgo halt hf hH hls
            have hls := GX.out.lay.at_ hlt
            rw [HVN.out] at hls
            by_cases hli : i < 64
            · have hii : (i : Int) < 64 := by omega
              have hw : IntKind.i64.wrap ((n : Int) + (i : Int)) = (n : Int) + (i : Int) := by rw [IntKind.wrap_i64]; omega
              have hm := fun W => HMB.out q (n + i) (by omega) (by omega) W
              rw [show ((n + i : Nat) : Int) = (n : Int) + (i : Int) by omega] at hm
              have HM := Lib.hid hm
              clear hm
              go_wp2_with (fail)
              refine (HM.out _).mono ?_
              rintro e w2 ⟨rfl, f2⟩
              have f2a := f2.alloc (.cells #[.int .u8 ((mb q (n + i)).toNat : Int)] 5)
              have G2 := Lib.hid (GX.out.fr f2a)
              have O2 := Lib.hid (own_keep GO.out fun b hb => f2a.block b (GO.out.lt b hb).2 (fun x => x))
              have F2 := Lib.hid (FX.out.then f2a.no)
              have H2 := Lib.hid (Nat.le_trans HX.out f2a.size)
              have hsrc : ∀ (j : Nat) (u : Value), (bv [mb q (n + i)])[j]? = some u → (w2.alloc (.cells #[.int .u8 ((mb q (n + i)).toNat : Int)] 5)).cell? ((⟨w2.heap.size, 0, none⟩ : Addr).add j) = some u := fun j u hj => by
                obtain ⟨ad, g1, g2⟩ := src_block w2 #[.int .u8 ((mb q (n + i)).toNat : Int)] 5 (bv [mb q (n + i)]) rfl
                cases g1
                exact g2 j u hj
              have HSRC := Lib.hid hsrc
              clear f2 f2a hsrc GX GO FX HM
              go_wp2_with (at_builtin; go_loud (refine wpList_append_two _ rfl _ _ 22 rfl B 5 i0 (.int .u8 0) 1 Try.underlying22 hi0 hz0 hz1 hz2 rfl g (n + i) (bv (mks q (n + i))) rfl O2.out _ 1 _ (bv [mb q (n + i)]) rfl rfl (by decide) HSRC.out (bv_one _) (by unfold maxLen; omega) (by omega) (Nat.le_trans HBH.out H2.out) ?_))
              intro v3 w3 hown3 hcase
              obtain ⟨g3, a3, f3⟩ := grow_step G2.out hlt HFar.out HGS.out HNK.out AL.out HVH.out HUH.out HLH.out HGH.out (HMV.out q hlt) (fun g hg => HMW.out g (Nat.le_trans HGW.out (Nat.le_trans (Nat.le_of_lt HGH.out) hg))) hown3 (hcase.imp_right fun x => ⟨_, x.1, by have := H2.out; simpa using this, x.2⟩)
              rw [← bv_append, ← mks_succ] at hown3
              have G3 := Lib.hid g3
              have A3 := Lib.hid a3
              have F3 := Lib.hid (F2.out.then f3)
              have O3 := Lib.hid hown3
              have H3 := Lib.hid (Nat.le_trans H2.out f3.size)
              clear g3 a3 f3 hown3 hcase G2 O2 F2 H2 HSRC AL hls hw
              go_wp2
              go_roundw
              case rel => exact ⟨i + 1, v3, by omega, by go_num, rfl, G3.out, O3.out, A3.out, F3.out, H3.out⟩
              case measure => simp [intOf]; omega
            · obtain rfl : i = 64 := by omega
              obtain ⟨A4, c4, hg4, -, -⟩ := own_form4 GO.out
              have HBF := Lib.hid (alt_far HFar.out hlt HGS.out HVH.out HLH.out HGH.out AL.out)
              have HGOO := Lib.hid (show wr.ownsRow B 5 1 g (N q + 64) (bv (mks q (N q + 64))) by rw [HNK.out]; exact GO.out)
              have G5 := Lib.hid (GX.out.put hlt (fun i hi hx => HGS.out i hi hx) HLG.out HGOO.out HBF.out)
              have F5 := Lib.hid (FX.out.setCell (p := ⟨GS, q, none⟩) (fun _ => HMW.out GS HGW.out) g)
              have hgc := (GX.out.at_ hlt).1
              have hgz := (GX.out.at_ hlt).2
              rw [if_neg (Nat.lt_irrefl q)] at hgc
              subst hg4
              clear GX GO AL FX HGOO HBF hls
              go_wp2
              go_roundw
              case rel => exact ⟨q + 1, _, by omega, by go_num, G5.out, F5.out⟩
              case measure => simp [intOf]; omega
        · obtain rfl : q = k := by omega
          have hgx := GW.out
          have GX := Lib.hid hgx
          clear hgx GW hlt hq
          obtain ⟨wo2, hwo2⟩ : ∃ wo : World, wo = wr := ⟨_, rfl⟩
          go_wp2
          go_loopw [2, 9, 10] (fun r s9 _ wx => r = .bool false ∧ ∃ p : Nat, p ≤ q ∧ s9 = .int .i64 (p : Int) ∧ Grw wx B q L cL GS V N U (fun _ => .slice none 0 0) (fun j => mks j (N j + 64)) q ∧ Fr M2 w wx) (fun _ s9 _ _ => q - (intOf s9).toNat)
          case atStart => exact ⟨rfl, 0, Nat.zero_le _, rfl, GX.out, FR.out⟩
          case round =>
            obtain ⟨rfl, p, hp, rfl, hgrw, hf⟩ := hrel
            have GP := Lib.hid hgrw
            have FP := Lib.hid hf
            clear hgrw hf GX FR
            by_cases hlt : p < q
            · have hpi : (p : Int) < (q : Int) := by omega
              obtain ⟨A, c, hV, hnc, hcm⟩ := own_form4 (GP.out.lay.own p hlt)
              obtain ⟨gu, cu, hU, -, -⟩ := (GP.out.us p hlt).form (by omega)
              have hucl := (GP.out.us p hlt).2
              have hnk := HN.out p hlt
              obtain ⟨n, hn⟩ : ∃ n, N p = n := ⟨_, rfl⟩
              have hcu : n + 64 ≤ cu := by
                rcases hucl with ⟨_, h0⟩ | ⟨g1, c1, cur, hv, _, _, h3, _⟩
                · omega
                · rw [hU] at hv; cases hv; omega
              rw [hn] at hnk hnc hV hU
              have HV := Lib.hid hV
              have HU := Lib.hid hU
              have HNK := Lib.hid hn
              have hni : (n : Int) ≤ 100000000000000 := by omega
              have hgs0 := (GP.out.at_ hlt).1
              rw [if_pos hlt, HU.out] at hgs0
              clear hV hU hn hucl
              obtain ⟨wo3, hwo3⟩ : ∃ wo : World, wo = wr := ⟨_, rfl⟩
              go_wp2
              clear hgs0
              go_loopw [2, 10] (fun r s10 wx => r = .bool false ∧ ∃ i : Nat, i ≤ n + 64 ∧ s10 = .int .i64 (i : Int) ∧ Grw wx B q L cL GS V N U (fun _ => .slice none 0 0) (fun j => mks j (N j + 64)) q ∧ Fr M2 w wx) (fun _ s10 _ => n + 64 - (intOf s10).toNat)
              case atStart => exact ⟨rfl, 0, Nat.zero_le _, rfl, GP.out, FP.out⟩
              case round =>
                obtain ⟨rfl, i, hi, rfl, hgrw, hf⟩ := hrel
                have GI := Lib.hid hgrw
                have FI := Lib.hid hf
                clear hgrw hf
                have hgs := (GI.out.at_ hlt).1
                rw [if_pos hlt, HU.out] at hgs
                have hls := GI.out.lay.at_ hlt
                rw [HV.out] at hls
                have HGSC := Lib.hid hgs
                have HLSC := Lib.hid hls
                by_cases hli : i < n + 64
                · have hii : (i : Int) < (n : Int) + 64 := by omega
                  have hcg := own_cell (w := wr) (g := gu) (i := i) (u := .int .u8 ((mb p i).toNat : Int)) (by rw [← HU.out, ← HNK.out]; exact GI.out.us p hlt) (by rw [bv_get _ i (by rw [mks_length, HNK.out]; exact hli), List.getD, mks_get (by rw [HNK.out]; exact hli)]; rfl)
                  have HCG := Lib.hid hcg
                  have HM := Lib.hid (fun W => HMB.out p i (by omega) (by omega) W)
                  have hbg := World.block_lt_of_cell? wr _ hcg.1
                  have hbl := World.block_lt_of_cell? wr _ hls
                  have hbs := World.block_lt_of_cell? wr _ hgs
                  clear hcg
                  by_cases hin : i < n
                  · obtain ⟨gv, cv, hVv, -, -⟩ := (GI.out.lay.own p hlt).form (by rw [HNK.out]; omega)
                    have hVV := hVv
                    rw [HV.out, HNK.out] at hVV
                    cases hVV
                    have hcv := own_cell (w := wr) (g := gv) (i := i) (u := .int .u8 ((mb p i).toNat : Int)) (by rw [← HNK.out] at *; rw [← hVv]; exact GI.out.lay.own p hlt) (by rw [bv_get _ i (by rw [mks_length, HNK.out]; exact hin), List.getD, mks_get (by rw [HNK.out]; exact hin)]; rfl)
                    have hbv := World.block_lt_of_cell? wr _ hcv.1
                    have HCV := Lib.hid hcv
                    have HS := Lib.hid (fun W (f : Fr NoB wr W) => (show (fun W => W.cell? ⟨GS, p, none⟩ = some (.slice (some ⟨gu, 0, none⟩) (n + 64) cu) ∧ W.cell? ⟨L, p, none⟩ = some (.slice (some ⟨gv, 0, none⟩) n c) ∧ W.cell? ⟨gu, i, none⟩ = some (.int .u8 ((mb p i).toNat : Int)) ∧ W.cell? ⟨gv, i, none⟩ = some (.int .u8 ((mb p i).toNat : Int))) W from ⟨(f.cell (p := ⟨GS, p, none⟩) hbs (fun x => x)).trans HGSC.out, (f.cell (p := ⟨L, p, none⟩) hbl (fun x => x)).trans HLSC.out, (f.cell (p := ⟨gu, i, none⟩) hbg (fun x => x)).trans HCG.out.1, (f.cell (p := ⟨gv, i, none⟩) hbv (fun x => x)).trans HCV.out.1⟩))
                    have hd1 : decide ((i : Int) < (n : Int)) = true := by simp; omega
                    have hd2 : decide (i < n) = true := by simp; omega
                    have hin2 : (i : Int) < (n : Int) := by omega
                    clear hVv hcv
                    go_wp2
                    refine wp_region_held_drew (S := fun W => W.cell? ⟨GS, p, none⟩ = some (.slice (some ⟨gu, 0, none⟩) (n + 64) cu) ∧ W.cell? ⟨L, p, none⟩ = some (.slice (some ⟨gv, 0, none⟩) n c) ∧ W.cell? ⟨gu, i, none⟩ = some (.int .u8 ((mb p i).toNat : Int)) ∧ W.cell? ⟨gv, i, none⟩ = some (.int .u8 ((mb p i).toNat : Int))) (by kernel_rfl) (HS.out _ (Fr.refl NoB wr).drew) (fun hHeld => ?_)
                    first | (refine wpAnyH_take (i := 0) (v := undef) (by simp only [List.getElem?_toArray, List.getElem?_cons_zero]; rfl) (by kernel_rfl) (by kernel_rfl) (by kernel_rfl) (by exact fun _ _ _ h => h) (Or.inr ⟨by rfl, rfl⟩) (by assumption) ?_) | (refine wpAnyH_take (i := 0) (v := ?_) (by simp only [List.getElem?_toArray, List.getElem?_cons_zero]; rfl) (by kernel_rfl) (by kernel_rfl) (by kernel_rfl) (by exact fun _ _ _ h => h) (Or.inl ⟨by rfl, ?_⟩) (by assumption) ?_; rotate_left; · (intro w hSw; (try dsimp only at hSw); go_simp; (try with_reducible rfl)))
                    try simp only [Act.put, List.setIfInBounds_toArray, List.set_cons_zero, List.set_cons_succ]
                    first | (refine wpAnyH_take (i := 1) (v := undef) (by simp only [List.getElem?_toArray, List.getElem?_cons_succ, List.getElem?_cons_zero]; rfl) (by kernel_rfl) (by kernel_rfl) (by kernel_rfl) (by exact fun _ _ _ h => h) (Or.inr ⟨by rfl, rfl⟩) (by assumption) ?_) | (refine wpAnyH_take (i := 1) (v := ?_) (by simp only [List.getElem?_toArray, List.getElem?_cons_succ, List.getElem?_cons_zero]; rfl) (by kernel_rfl) (by kernel_rfl) (by kernel_rfl) (by exact fun _ _ _ h => h) (Or.inl ⟨by rfl, ?_⟩) (by assumption) ?_; rotate_left; · (intro w hSw; (try dsimp only at hSw); go_simp; (try with_reducible rfl)))
                    try simp only [Act.put, List.setIfInBounds_toArray, List.set_cons_zero, List.set_cons_succ]
                    first | (refine wpAnyH_take (i := 2) (v := undef) (by simp only [List.getElem?_toArray, List.getElem?_cons_succ, List.getElem?_cons_zero]; rfl) (by kernel_rfl) (by kernel_rfl) (by kernel_rfl) (by exact fun _ _ _ h => h) (Or.inr ⟨by rfl, rfl⟩) (by assumption) ?_) | (refine wpAnyH_take (i := 2) (v := ?_) (by simp only [List.getElem?_toArray, List.getElem?_cons_succ, List.getElem?_cons_zero]; rfl) (by kernel_rfl) (by kernel_rfl) (by kernel_rfl) (by exact fun _ _ _ h => h) (Or.inl ⟨by rfl, ?_⟩) (by assumption) ?_; rotate_left; · (intro w hSw; (try dsimp only at hSw); go_simp; (try with_reducible rfl)))
                    try simp only [Act.put, List.setIfInBounds_toArray, List.set_cons_zero, List.set_cons_succ]
                    first | (refine wpAnyH_take (i := 3) (v := undef) (by simp only [List.getElem?_toArray, List.getElem?_cons_succ, List.getElem?_cons_zero]; rfl) (by kernel_rfl) (by kernel_rfl) (by kernel_rfl) (by exact fun _ _ _ h => h) (Or.inr ⟨by rfl, rfl⟩) (by assumption) ?_) | (refine wpAnyH_take (i := 3) (v := ?_) (by simp only [List.getElem?_toArray, List.getElem?_cons_succ, List.getElem?_cons_zero]; rfl) (by kernel_rfl) (by kernel_rfl) (by kernel_rfl) (by exact fun _ _ _ h => h) (Or.inl ⟨by rfl, ?_⟩) (by assumption) ?_; rotate_left; · (intro w hSw; (try dsimp only at hSw); go_simp; (try with_reducible rfl)))
                    try simp only [Act.put, List.setIfInBounds_toArray, List.set_cons_zero, List.set_cons_succ]
                    first | (refine wpAnyH_take (i := 4) (v := undef) (by simp only [List.getElem?_toArray, List.getElem?_cons_succ, List.getElem?_cons_zero]; rfl) (by kernel_rfl) (by kernel_rfl) (by kernel_rfl) (by exact fun _ _ _ h => h) (Or.inr ⟨by rfl, rfl⟩) (by assumption) ?_) | (refine wpAnyH_take (i := 4) (v := ?_) (by simp only [List.getElem?_toArray, List.getElem?_cons_succ, List.getElem?_cons_zero]; rfl) (by kernel_rfl) (by kernel_rfl) (by kernel_rfl) (by exact fun _ _ _ h => h) (Or.inl ⟨by rfl, ?_⟩) (by assumption) ?_; rotate_left; · (intro w hSw; (try dsimp only at hSw); go_simp; (try with_reducible rfl)))
                    try simp only [Act.put, List.setIfInBounds_toArray, List.set_cons_zero, List.set_cons_succ]
                    first | (refine wpAnyH_take (i := 5) (v := undef) (by simp only [List.getElem?_toArray, List.getElem?_cons_succ, List.getElem?_cons_zero]; rfl) (by kernel_rfl) (by kernel_rfl) (by kernel_rfl) (by exact fun _ _ _ h => h) (Or.inr ⟨by rfl, rfl⟩) (by assumption) ?_) | (refine wpAnyH_take (i := 5) (v := ?_) (by simp only [List.getElem?_toArray, List.getElem?_cons_succ, List.getElem?_cons_zero]; rfl) (by kernel_rfl) (by kernel_rfl) (by kernel_rfl) (by exact fun _ _ _ h => h) (Or.inl ⟨by rfl, ?_⟩) (by assumption) ?_; rotate_left; · (intro w hSw; (try dsimp only at hSw); go_simp; (try with_reducible rfl)))
                    try simp only [Act.put, List.setIfInBounds_toArray, List.set_cons_zero, List.set_cons_succ]
                    first | (refine wpAnyH_take (i := 6) (v := undef) (by simp only [List.getElem?_toArray, List.getElem?_cons_succ, List.getElem?_cons_zero]; rfl) (by kernel_rfl) (by kernel_rfl) (by kernel_rfl) (by exact fun _ _ _ h => h) (Or.inr ⟨by rfl, rfl⟩) (by assumption) ?_) | (refine wpAnyH_take (i := 6) (v := ?_) (by simp only [List.getElem?_toArray, List.getElem?_cons_succ, List.getElem?_cons_zero]; rfl) (by kernel_rfl) (by kernel_rfl) (by kernel_rfl) (by exact fun _ _ _ h => h) (Or.inl ⟨by rfl, ?_⟩) (by assumption) ?_; rotate_left; · (intro w hSw; (try dsimp only at hSw); go_simp; (try with_reducible rfl)))
                    try simp only [Act.put, List.setIfInBounds_toArray, List.set_cons_zero, List.set_cons_succ]
                    first | (refine wpAnyH_take (i := 7) (v := undef) (by simp only [List.getElem?_toArray, List.getElem?_cons_succ, List.getElem?_cons_zero]; rfl) (by kernel_rfl) (by kernel_rfl) (by kernel_rfl) (by exact fun _ _ _ h => h) (Or.inr ⟨by rfl, rfl⟩) (by assumption) ?_) | (refine wpAnyH_take (i := 7) (v := ?_) (by simp only [List.getElem?_toArray, List.getElem?_cons_succ, List.getElem?_cons_zero]; rfl) (by kernel_rfl) (by kernel_rfl) (by kernel_rfl) (by exact fun _ _ _ h => h) (Or.inl ⟨by rfl, ?_⟩) (by assumption) ?_; rotate_left; · (intro w hSw; (try dsimp only at hSw); go_simp; (try with_reducible rfl)))
                    try simp only [Act.put, List.setIfInBounds_toArray, List.set_cons_zero, List.set_cons_succ]
                    first | (refine wpAnyH_take (i := 8) (v := undef) (by simp only [List.getElem?_toArray, List.getElem?_cons_succ, List.getElem?_cons_zero]; rfl) (by kernel_rfl) (by kernel_rfl) (by kernel_rfl) (by exact fun _ _ _ h => h) (Or.inr ⟨by rfl, rfl⟩) (by assumption) ?_) | (refine wpAnyH_take (i := 8) (v := ?_) (by simp only [List.getElem?_toArray, List.getElem?_cons_succ, List.getElem?_cons_zero]; rfl) (by kernel_rfl) (by kernel_rfl) (by kernel_rfl) (by exact fun _ _ _ h => h) (Or.inl ⟨by rfl, ?_⟩) (by assumption) ?_; rotate_left; · (intro w hSw; (try dsimp only at hSw); go_simp; (try with_reducible rfl)))
                    try simp only [Act.put, List.setIfInBounds_toArray, List.set_cons_zero, List.set_cons_succ]
                    refine wpAnyH_ready (rs := [9]) (by kernel_rfl) (by simp) ?_
                    refine AllReadyH.cons rfl (fun KK hK => ?_) AllReadyH.nil
                    go_simp
                    refine (HM.out _).mono ?_
                    rintro e x1 ⟨rfl, ff⟩
                    have FA := Lib.hid ((Fr.refl NoB wr).drew.then ff)
                    clear ff
                    go_wp2_with (fail)
                    refine hK.out _ _ (HS.out _ FA.out) (fun hHeldFA => ?_)
                    clear hK KK
                    try simp only [Act.put, List.setIfInBounds_toArray, List.set_cons_zero, List.set_cons_succ]
                    first | (refine wpAnyH_take (i := 10) (v := undef) (by simp only [List.getElem?_toArray, List.getElem?_cons_succ, List.getElem?_cons_zero]; rfl) (by kernel_rfl) (by kernel_rfl) (by kernel_rfl) (by exact fun _ _ _ h => h) (Or.inr ⟨by rfl, rfl⟩) (by assumption) ?_) | (refine wpAnyH_take (i := 10) (v := ?_) (by simp only [List.getElem?_toArray, List.getElem?_cons_succ, List.getElem?_cons_zero]; rfl) (by kernel_rfl) (by kernel_rfl) (by kernel_rfl) (by exact fun _ _ _ h => h) (Or.inl ⟨by rfl, ?_⟩) (by assumption) ?_; rotate_left; · (intro w hSw; (try dsimp only at hSw); go_simp; (try with_reducible rfl)))
                    try simp only [Act.put, List.setIfInBounds_toArray, List.set_cons_zero, List.set_cons_succ]
                    first | (refine wpAnyH_take (i := 11) (v := undef) (by simp only [List.getElem?_toArray, List.getElem?_cons_succ, List.getElem?_cons_zero]; rfl) (by kernel_rfl) (by kernel_rfl) (by kernel_rfl) (by exact fun _ _ _ h => h) (Or.inr ⟨by rfl, rfl⟩) (by assumption) ?_) | (refine wpAnyH_take (i := 11) (v := ?_) (by simp only [List.getElem?_toArray, List.getElem?_cons_succ, List.getElem?_cons_zero]; rfl) (by kernel_rfl) (by kernel_rfl) (by kernel_rfl) (by exact fun _ _ _ h => h) (Or.inl ⟨by rfl, ?_⟩) (by assumption) ?_; rotate_left; · (intro w hSw; (try dsimp only at hSw); go_simp; (try with_reducible rfl)))
                    try simp only [Act.put, List.setIfInBounds_toArray, List.set_cons_zero, List.set_cons_succ]
                    first | (refine wpAnyH_take (i := 12) (v := undef) (by simp only [List.getElem?_toArray, List.getElem?_cons_succ, List.getElem?_cons_zero]; rfl) (by kernel_rfl) (by kernel_rfl) (by kernel_rfl) (by exact fun _ _ _ h => h) (Or.inr ⟨by rfl, rfl⟩) (by assumption) ?_) | (refine wpAnyH_take (i := 12) (v := ?_) (by simp only [List.getElem?_toArray, List.getElem?_cons_succ, List.getElem?_cons_zero]; rfl) (by kernel_rfl) (by kernel_rfl) (by kernel_rfl) (by exact fun _ _ _ h => h) (Or.inl ⟨by rfl, ?_⟩) (by assumption) ?_; rotate_left; · (intro w hSw; (try dsimp only at hSw); go_simp; (try with_reducible rfl)))
                    try simp only [Act.put, List.setIfInBounds_toArray, List.set_cons_zero, List.set_cons_succ]
                    first | (refine wpAnyH_take (i := 13) (v := undef) (by simp only [List.getElem?_toArray, List.getElem?_cons_succ, List.getElem?_cons_zero]; rfl) (by kernel_rfl) (by kernel_rfl) (by kernel_rfl) (by exact fun _ _ _ h => h) (Or.inr ⟨by rfl, rfl⟩) (by assumption) ?_) | (refine wpAnyH_take (i := 13) (v := ?_) (by simp only [List.getElem?_toArray, List.getElem?_cons_succ, List.getElem?_cons_zero]; rfl) (by kernel_rfl) (by kernel_rfl) (by kernel_rfl) (by exact fun _ _ _ h => h) (Or.inl ⟨by rfl, ?_⟩) (by assumption) ?_; rotate_left; · (intro w hSw; (try dsimp only at hSw); go_simp; (try with_reducible rfl)))
                    try simp only [Act.put, List.setIfInBounds_toArray, List.set_cons_zero, List.set_cons_succ]
                    first | (refine wpAnyH_take (i := 14) (v := undef) (by simp only [List.getElem?_toArray, List.getElem?_cons_succ, List.getElem?_cons_zero]; rfl) (by kernel_rfl) (by kernel_rfl) (by kernel_rfl) (by exact fun _ _ _ h => h) (Or.inr ⟨by rfl, rfl⟩) (by assumption) ?_) | (refine wpAnyH_take (i := 14) (v := ?_) (by simp only [List.getElem?_toArray, List.getElem?_cons_succ, List.getElem?_cons_zero]; rfl) (by kernel_rfl) (by kernel_rfl) (by kernel_rfl) (by exact fun _ _ _ h => h) (Or.inl ⟨by rfl, ?_⟩) (by assumption) ?_; rotate_left; · (intro w hSw; (try dsimp only at hSw); go_simp; (try with_reducible rfl)))
                    try simp only [Act.put, List.setIfInBounds_toArray, List.set_cons_zero, List.set_cons_succ]
                    first | (refine wpAnyH_take (i := 15) (v := undef) (by simp only [List.getElem?_toArray, List.getElem?_cons_succ, List.getElem?_cons_zero]; rfl) (by kernel_rfl) (by kernel_rfl) (by kernel_rfl) (by exact fun _ _ _ h => h) (Or.inr ⟨by rfl, rfl⟩) (by assumption) ?_) | (refine wpAnyH_take (i := 15) (v := ?_) (by simp only [List.getElem?_toArray, List.getElem?_cons_succ, List.getElem?_cons_zero]; rfl) (by kernel_rfl) (by kernel_rfl) (by kernel_rfl) (by exact fun _ _ _ h => h) (Or.inl ⟨by rfl, ?_⟩) (by assumption) ?_; rotate_left; · (intro w hSw; (try dsimp only at hSw); go_simp; (try with_reducible rfl)))
                    try simp only [Act.put, List.setIfInBounds_toArray, List.set_cons_zero, List.set_cons_succ]
                    first | (refine wpAnyH_take (i := 16) (v := undef) (by simp only [List.getElem?_toArray, List.getElem?_cons_succ, List.getElem?_cons_zero]; rfl) (by kernel_rfl) (by kernel_rfl) (by kernel_rfl) (by exact fun _ _ _ h => h) (Or.inr ⟨by rfl, rfl⟩) (by assumption) ?_) | (refine wpAnyH_take (i := 16) (v := ?_) (by simp only [List.getElem?_toArray, List.getElem?_cons_succ, List.getElem?_cons_zero]; rfl) (by kernel_rfl) (by kernel_rfl) (by kernel_rfl) (by exact fun _ _ _ h => h) (Or.inl ⟨by rfl, ?_⟩) (by assumption) ?_; rotate_left; · (intro w hSw; (try dsimp only at hSw); go_simp; (try with_reducible rfl)))
                    try simp only [Act.put, List.setIfInBounds_toArray, List.set_cons_zero, List.set_cons_succ]
                    first | (refine wpAnyH_take (i := 17) (v := undef) (by simp only [List.getElem?_toArray, List.getElem?_cons_succ, List.getElem?_cons_zero]; rfl) (by kernel_rfl) (by kernel_rfl) (by kernel_rfl) (by exact fun _ _ _ h => h) (Or.inr ⟨by rfl, rfl⟩) (by assumption) ?_) | (refine wpAnyH_take (i := 17) (v := ?_) (by simp only [List.getElem?_toArray, List.getElem?_cons_succ, List.getElem?_cons_zero]; rfl) (by kernel_rfl) (by kernel_rfl) (by kernel_rfl) (by exact fun _ _ _ h => h) (Or.inl ⟨by rfl, ?_⟩) (by assumption) ?_; rotate_left; · (intro w hSw; (try dsimp only at hSw); go_simp; (try with_reducible rfl)))
                    try simp only [Act.put, List.setIfInBounds_toArray, List.set_cons_zero, List.set_cons_succ]
                    first | (refine wpAnyH_take (i := 18) (v := undef) (by simp only [List.getElem?_toArray, List.getElem?_cons_succ, List.getElem?_cons_zero]; rfl) (by kernel_rfl) (by kernel_rfl) (by kernel_rfl) (by exact fun _ _ _ h => h) (Or.inr ⟨by rfl, rfl⟩) (by assumption) ?_) | (refine wpAnyH_take (i := 18) (v := ?_) (by simp only [List.getElem?_toArray, List.getElem?_cons_succ, List.getElem?_cons_zero]; rfl) (by kernel_rfl) (by kernel_rfl) (by kernel_rfl) (by exact fun _ _ _ h => h) (Or.inl ⟨by rfl, ?_⟩) (by assumption) ?_; rotate_left; · (intro w hSw; (try dsimp only at hSw); go_simp; (try with_reducible rfl)))
                    try simp only [Act.put, List.setIfInBounds_toArray, List.set_cons_zero, List.set_cons_succ]
                    first | (refine wpAnyH_take (i := 19) (v := undef) (by simp only [List.getElem?_toArray, List.getElem?_cons_succ, List.getElem?_cons_zero]; rfl) (by kernel_rfl) (by kernel_rfl) (by kernel_rfl) (by exact fun _ _ _ h => h) (Or.inr ⟨by rfl, rfl⟩) (by assumption) ?_) | (refine wpAnyH_take (i := 19) (v := ?_) (by simp only [List.getElem?_toArray, List.getElem?_cons_succ, List.getElem?_cons_zero]; rfl) (by kernel_rfl) (by kernel_rfl) (by kernel_rfl) (by exact fun _ _ _ h => h) (Or.inl ⟨by rfl, ?_⟩) (by assumption) ?_; rotate_left; · (intro w hSw; (try dsimp only at hSw); go_simp; (try with_reducible rfl)))
                    try simp only [Act.put, List.setIfInBounds_toArray, List.set_cons_zero, List.set_cons_succ]
                    first | (refine wpAnyH_take (i := 20) (v := undef) (by simp only [List.getElem?_toArray, List.getElem?_cons_succ, List.getElem?_cons_zero]; rfl) (by kernel_rfl) (by kernel_rfl) (by kernel_rfl) (by exact fun _ _ _ h => h) (Or.inr ⟨by rfl, rfl⟩) (by assumption) ?_) | (refine wpAnyH_take (i := 20) (v := ?_) (by simp only [List.getElem?_toArray, List.getElem?_cons_succ, List.getElem?_cons_zero]; rfl) (by kernel_rfl) (by kernel_rfl) (by kernel_rfl) (by exact fun _ _ _ h => h) (Or.inl ⟨by rfl, ?_⟩) (by assumption) ?_; rotate_left; · (intro w hSw; (try dsimp only at hSw); go_simp; (try with_reducible rfl)))
                    try simp only [Act.put, List.setIfInBounds_toArray, List.set_cons_zero, List.set_cons_succ]
                    first | (refine wpAnyH_take (i := 21) (v := undef) (by simp only [List.getElem?_toArray, List.getElem?_cons_succ, List.getElem?_cons_zero]; rfl) (by kernel_rfl) (by kernel_rfl) (by kernel_rfl) (by exact fun _ _ _ h => h) (Or.inr ⟨by rfl, rfl⟩) (by assumption) ?_) | (refine wpAnyH_take (i := 21) (v := ?_) (by simp only [List.getElem?_toArray, List.getElem?_cons_succ, List.getElem?_cons_zero]; rfl) (by kernel_rfl) (by kernel_rfl) (by kernel_rfl) (by exact fun _ _ _ h => h) (Or.inl ⟨by rfl, ?_⟩) (by assumption) ?_; rotate_left; · (intro w hSw; (try dsimp only at hSw); go_simp; (try with_reducible rfl)))
                    try simp only [Act.put, List.setIfInBounds_toArray, List.set_cons_zero, List.set_cons_succ]
                    first | (refine wpAnyH_take (i := 22) (v := undef) (by simp only [List.getElem?_toArray, List.getElem?_cons_succ, List.getElem?_cons_zero]; rfl) (by kernel_rfl) (by kernel_rfl) (by kernel_rfl) (by exact fun _ _ _ h => h) (Or.inr ⟨by rfl, rfl⟩) (by assumption) ?_) | (refine wpAnyH_take (i := 22) (v := ?_) (by simp only [List.getElem?_toArray, List.getElem?_cons_succ, List.getElem?_cons_zero]; rfl) (by kernel_rfl) (by kernel_rfl) (by kernel_rfl) (by exact fun _ _ _ h => h) (Or.inl ⟨by rfl, ?_⟩) (by assumption) ?_; rotate_left; · (intro w hSw; (try dsimp only at hSw); go_simp; (try with_reducible rfl)))
                    try simp only [Act.put, List.setIfInBounds_toArray, List.set_cons_zero, List.set_cons_succ]
                    first | (refine wpAnyH_take (i := 23) (v := undef) (by simp only [List.getElem?_toArray, List.getElem?_cons_succ, List.getElem?_cons_zero]; rfl) (by kernel_rfl) (by kernel_rfl) (by kernel_rfl) (by exact fun _ _ _ h => h) (Or.inr ⟨by rfl, rfl⟩) (by assumption) ?_) | (refine wpAnyH_take (i := 23) (v := ?_) (by simp only [List.getElem?_toArray, List.getElem?_cons_succ, List.getElem?_cons_zero]; rfl) (by kernel_rfl) (by kernel_rfl) (by kernel_rfl) (by exact fun _ _ _ h => h) (Or.inl ⟨by rfl, ?_⟩) (by assumption) ?_; rotate_left; · (intro w hSw; (try dsimp only at hSw); go_simp; (try with_reducible rfl)))
                    try simp only [Act.put, List.setIfInBounds_toArray, List.set_cons_zero, List.set_cons_succ]
                    first | (refine wpAnyH_take (i := 24) (v := undef) (by simp only [List.getElem?_toArray, List.getElem?_cons_succ, List.getElem?_cons_zero]; rfl) (by kernel_rfl) (by kernel_rfl) (by kernel_rfl) (by exact fun _ _ _ h => h) (Or.inr ⟨by rfl, rfl⟩) (by assumption) ?_) | (refine wpAnyH_take (i := 24) (v := ?_) (by simp only [List.getElem?_toArray, List.getElem?_cons_succ, List.getElem?_cons_zero]; rfl) (by kernel_rfl) (by kernel_rfl) (by kernel_rfl) (by exact fun _ _ _ h => h) (Or.inl ⟨by rfl, ?_⟩) (by assumption) ?_; rotate_left; · (intro w hSw; (try dsimp only at hSw); go_simp; (try with_reducible rfl)))
                    try simp only [Act.put, List.setIfInBounds_toArray, List.set_cons_zero, List.set_cons_succ]
                    first | (refine wpAnyH_take (i := 25) (v := undef) (by simp only [List.getElem?_toArray, List.getElem?_cons_succ, List.getElem?_cons_zero]; rfl) (by kernel_rfl) (by kernel_rfl) (by kernel_rfl) (by exact fun _ _ _ h => h) (Or.inr ⟨by rfl, rfl⟩) (by assumption) ?_) | (refine wpAnyH_take (i := 25) (v := ?_) (by simp only [List.getElem?_toArray, List.getElem?_cons_succ, List.getElem?_cons_zero]; rfl) (by kernel_rfl) (by kernel_rfl) (by kernel_rfl) (by exact fun _ _ _ h => h) (Or.inl ⟨by rfl, ?_⟩) (by assumption) ?_; rotate_left; · (intro w hSw; (try dsimp only at hSw); go_simp; (try with_reducible rfl)))
                    try simp only [Act.put, List.setIfInBounds_toArray, List.set_cons_zero, List.set_cons_succ]
                    first | (refine wpAnyH_take (i := 26) (v := undef) (by simp only [List.getElem?_toArray, List.getElem?_cons_succ, List.getElem?_cons_zero]; rfl) (by kernel_rfl) (by kernel_rfl) (by kernel_rfl) (by exact fun _ _ _ h => h) (Or.inr ⟨by rfl, rfl⟩) (by assumption) ?_) | (refine wpAnyH_take (i := 26) (v := ?_) (by simp only [List.getElem?_toArray, List.getElem?_cons_succ, List.getElem?_cons_zero]; rfl) (by kernel_rfl) (by kernel_rfl) (by kernel_rfl) (by exact fun _ _ _ h => h) (Or.inl ⟨by rfl, ?_⟩) (by assumption) ?_; rotate_left; · (intro w hSw; (try dsimp only at hSw); go_simp; (try with_reducible rfl)))
                    try simp only [Act.put, List.setIfInBounds_toArray, List.set_cons_zero, List.set_cons_succ]
                    first | (refine wpAnyH_take (i := 27) (v := undef) (by simp only [List.getElem?_toArray, List.getElem?_cons_succ, List.getElem?_cons_zero]; rfl) (by kernel_rfl) (by kernel_rfl) (by kernel_rfl) (by exact fun _ _ _ h => h) (Or.inr ⟨by rfl, rfl⟩) (by assumption) ?_) | (refine wpAnyH_take (i := 27) (v := ?_) (by simp only [List.getElem?_toArray, List.getElem?_cons_succ, List.getElem?_cons_zero]; rfl) (by kernel_rfl) (by kernel_rfl) (by kernel_rfl) (by exact fun _ _ _ h => h) (Or.inl ⟨by rfl, ?_⟩) (by assumption) ?_; rotate_left; · (intro w hSw; (try dsimp only at hSw); go_simp; (try with_reducible rfl)))
                    try simp only [Act.put, List.setIfInBounds_toArray, List.set_cons_zero, List.set_cons_succ]
                    first | (refine wpAnyH_take (i := 28) (v := undef) (by simp only [List.getElem?_toArray, List.getElem?_cons_succ, List.getElem?_cons_zero]; rfl) (by kernel_rfl) (by kernel_rfl) (by kernel_rfl) (by exact fun _ _ _ h => h) (Or.inr ⟨by rfl, rfl⟩) (by assumption) ?_) | (refine wpAnyH_take (i := 28) (v := ?_) (by simp only [List.getElem?_toArray, List.getElem?_cons_succ, List.getElem?_cons_zero]; rfl) (by kernel_rfl) (by kernel_rfl) (by kernel_rfl) (by exact fun _ _ _ h => h) (Or.inl ⟨by rfl, ?_⟩) (by assumption) ?_; rotate_left; · (intro w hSw; (try dsimp only at hSw); go_simp; (try with_reducible rfl)))
                    try simp only [Act.put, List.setIfInBounds_toArray, List.set_cons_zero, List.set_cons_succ]
                    first | (refine wpAnyH_take (i := 29) (v := undef) (by simp only [List.getElem?_toArray, List.getElem?_cons_succ, List.getElem?_cons_zero]; rfl) (by kernel_rfl) (by kernel_rfl) (by kernel_rfl) (by exact fun _ _ _ h => h) (Or.inr ⟨by rfl, rfl⟩) (by assumption) ?_) | (refine wpAnyH_take (i := 29) (v := ?_) (by simp only [List.getElem?_toArray, List.getElem?_cons_succ, List.getElem?_cons_zero]; rfl) (by kernel_rfl) (by kernel_rfl) (by kernel_rfl) (by exact fun _ _ _ h => h) (Or.inl ⟨by rfl, ?_⟩) (by assumption) ?_; rotate_left; · (intro w hSw; (try dsimp only at hSw); go_simp; (try with_reducible rfl)))
                    try simp only [Act.put, List.setIfInBounds_toArray, List.set_cons_zero, List.set_cons_succ]
                    refine wpAnyH_ready (rs := [30]) (by kernel_rfl) (by simp) ?_
                    refine AllReadyH.cons rfl (fun KK hK => ?_) AllReadyH.nil
                    go_simp
                    refine (HM.out _).mono ?_
                    rintro e x2 ⟨rfl, ff⟩
                    have FB := Lib.hid (FA.out.then ff)
                    clear ff
                    go_wp2_with (fail)
                    refine hK.out _ _ (HS.out _ FB.out) (fun hHeldFB => ?_)
                    clear hK KK
                    try simp only [Act.put, List.setIfInBounds_toArray, List.set_cons_zero, List.set_cons_succ]
                    first | (refine wpAnyH_take (i := 31) (v := undef) (by simp only [List.getElem?_toArray, List.getElem?_cons_succ, List.getElem?_cons_zero]; rfl) (by kernel_rfl) (by kernel_rfl) (by kernel_rfl) (by exact fun _ _ _ h => h) (Or.inr ⟨by rfl, rfl⟩) (by assumption) ?_) | (refine wpAnyH_take (i := 31) (v := ?_) (by simp only [List.getElem?_toArray, List.getElem?_cons_succ, List.getElem?_cons_zero]; rfl) (by kernel_rfl) (by kernel_rfl) (by kernel_rfl) (by exact fun _ _ _ h => h) (Or.inl ⟨by rfl, ?_⟩) (by assumption) ?_; rotate_left; · (intro w hSw; (try dsimp only at hSw); go_simp; (try with_reducible rfl)))
                    try simp only [Act.put, List.setIfInBounds_toArray, List.set_cons_zero, List.set_cons_succ]
                    first | (refine wpAnyH_take (i := 32) (v := undef) (by simp only [List.getElem?_toArray, List.getElem?_cons_succ, List.getElem?_cons_zero]; rfl) (by kernel_rfl) (by kernel_rfl) (by kernel_rfl) (by exact fun _ _ _ h => h) (Or.inr ⟨by rfl, rfl⟩) (by assumption) ?_) | (refine wpAnyH_take (i := 32) (v := ?_) (by simp only [List.getElem?_toArray, List.getElem?_cons_succ, List.getElem?_cons_zero]; rfl) (by kernel_rfl) (by kernel_rfl) (by kernel_rfl) (by exact fun _ _ _ h => h) (Or.inl ⟨by rfl, ?_⟩) (by assumption) ?_; rotate_left; · (intro w hSw; (try dsimp only at hSw); go_simp; (try with_reducible rfl)))
                    try simp only [Act.put, List.setIfInBounds_toArray, List.set_cons_zero, List.set_cons_succ]
                    first | (refine wpAnyH_take (i := 33) (v := undef) (by simp only [List.getElem?_toArray, List.getElem?_cons_succ, List.getElem?_cons_zero]; rfl) (by kernel_rfl) (by kernel_rfl) (by kernel_rfl) (by exact fun _ _ _ h => h) (Or.inr ⟨by rfl, rfl⟩) (by assumption) ?_) | (refine wpAnyH_take (i := 33) (v := ?_) (by simp only [List.getElem?_toArray, List.getElem?_cons_succ, List.getElem?_cons_zero]; rfl) (by kernel_rfl) (by kernel_rfl) (by kernel_rfl) (by exact fun _ _ _ h => h) (Or.inl ⟨by rfl, ?_⟩) (by assumption) ?_; rotate_left; · (intro w hSw; (try dsimp only at hSw); go_simp; (try with_reducible rfl)))
                    try simp only [Act.put, List.setIfInBounds_toArray, List.set_cons_zero, List.set_cons_succ]
                    first | (refine wpAnyH_take (i := 34) (v := undef) (by simp only [List.getElem?_toArray, List.getElem?_cons_succ, List.getElem?_cons_zero]; rfl) (by kernel_rfl) (by kernel_rfl) (by kernel_rfl) (by exact fun _ _ _ h => h) (Or.inr ⟨by rfl, rfl⟩) (by assumption) ?_) | (refine wpAnyH_take (i := 34) (v := ?_) (by simp only [List.getElem?_toArray, List.getElem?_cons_succ, List.getElem?_cons_zero]; rfl) (by kernel_rfl) (by kernel_rfl) (by kernel_rfl) (by exact fun _ _ _ h => h) (Or.inl ⟨by rfl, ?_⟩) (by assumption) ?_; rotate_left; · (intro w hSw; (try dsimp only at hSw); go_simp; (try with_reducible rfl)))
                    try simp only [Act.put, List.setIfInBounds_toArray, List.set_cons_zero, List.set_cons_succ]
                    refine wpAnyH_done (by kernel_rfl) ?_ _
                    have G2 := Lib.hid (GI.out.fr FB.out)
                    have F2 := Lib.hid (FI.out.then FB.out.no)
                    clear hHeld hHeldFA hHeldFB hgs hls
                    go_wp2
                    go_roundw
                    case rel => exact ⟨rfl, i + 1, by omega, by go_num, G2.out, F2.out⟩
                    case measure => simp [intOf]; omega
                  · have HS := Lib.hid (fun W (f : Fr NoB wr W) => (show (fun W => W.cell? ⟨GS, p, none⟩ = some (.slice (some ⟨gu, 0, none⟩) (n + 64) cu) ∧ W.cell? ⟨L, p, none⟩ = some (.slice A n c) ∧ W.cell? ⟨gu, i, none⟩ = some (.int .u8 ((mb p i).toNat : Int))) W from ⟨(f.cell (p := ⟨GS, p, none⟩) hbs (fun x => x)).trans HGSC.out, (f.cell (p := ⟨L, p, none⟩) hbl (fun x => x)).trans HLSC.out, (f.cell (p := ⟨gu, i, none⟩) hbg (fun x => x)).trans HCG.out.1⟩))
                    have hd1 : decide ((i : Int) < (n : Int)) = false := by simp; omega
                    have hd2 : decide (i < n) = false := by simp; omega
                    clear hin
                    go_wp2
                    refine wp_region_held_drew (S := fun W => W.cell? ⟨GS, p, none⟩ = some (.slice (some ⟨gu, 0, none⟩) (n + 64) cu) ∧ W.cell? ⟨L, p, none⟩ = some (.slice A n c) ∧ W.cell? ⟨gu, i, none⟩ = some (.int .u8 ((mb p i).toNat : Int))) (by kernel_rfl) (HS.out _ (Fr.refl NoB wr).drew) (fun hHeld => ?_)
                    first | (refine wpAnyH_take (i := 0) (v := undef) (by simp only [List.getElem?_toArray, List.getElem?_cons_zero]; rfl) (by kernel_rfl) (by kernel_rfl) (by kernel_rfl) (by exact fun _ _ _ h => h) (Or.inr ⟨by rfl, rfl⟩) (by assumption) ?_) | (refine wpAnyH_take (i := 0) (v := ?_) (by simp only [List.getElem?_toArray, List.getElem?_cons_zero]; rfl) (by kernel_rfl) (by kernel_rfl) (by kernel_rfl) (by exact fun _ _ _ h => h) (Or.inl ⟨by rfl, ?_⟩) (by assumption) ?_; rotate_left; · (intro w hSw; (try dsimp only at hSw); go_simp; (try with_reducible rfl)))
                    try simp only [Act.put, List.setIfInBounds_toArray, List.set_cons_zero, List.set_cons_succ]
                    first | (refine wpAnyH_take (i := 1) (v := undef) (by simp only [List.getElem?_toArray, List.getElem?_cons_succ, List.getElem?_cons_zero]; rfl) (by kernel_rfl) (by kernel_rfl) (by kernel_rfl) (by exact fun _ _ _ h => h) (Or.inr ⟨by rfl, rfl⟩) (by assumption) ?_) | (refine wpAnyH_take (i := 1) (v := ?_) (by simp only [List.getElem?_toArray, List.getElem?_cons_succ, List.getElem?_cons_zero]; rfl) (by kernel_rfl) (by kernel_rfl) (by kernel_rfl) (by exact fun _ _ _ h => h) (Or.inl ⟨by rfl, ?_⟩) (by assumption) ?_; rotate_left; · (intro w hSw; (try dsimp only at hSw); go_simp; (try with_reducible rfl)))
                    try simp only [Act.put, List.setIfInBounds_toArray, List.set_cons_zero, List.set_cons_succ]
                    first | (refine wpAnyH_take (i := 2) (v := undef) (by simp only [List.getElem?_toArray, List.getElem?_cons_succ, List.getElem?_cons_zero]; rfl) (by kernel_rfl) (by kernel_rfl) (by kernel_rfl) (by exact fun _ _ _ h => h) (Or.inr ⟨by rfl, rfl⟩) (by assumption) ?_) | (refine wpAnyH_take (i := 2) (v := ?_) (by simp only [List.getElem?_toArray, List.getElem?_cons_succ, List.getElem?_cons_zero]; rfl) (by kernel_rfl) (by kernel_rfl) (by kernel_rfl) (by exact fun _ _ _ h => h) (Or.inl ⟨by rfl, ?_⟩) (by assumption) ?_; rotate_left; · (intro w hSw; (try dsimp only at hSw); go_simp; (try with_reducible rfl)))
                    try simp only [Act.put, List.setIfInBounds_toArray, List.set_cons_zero, List.set_cons_succ]
                    first | (refine wpAnyH_take (i := 3) (v := undef) (by simp only [List.getElem?_toArray, List.getElem?_cons_succ, List.getElem?_cons_zero]; rfl) (by kernel_rfl) (by kernel_rfl) (by kernel_rfl) (by exact fun _ _ _ h => h) (Or.inr ⟨by rfl, rfl⟩) (by assumption) ?_) | (refine wpAnyH_take (i := 3) (v := ?_) (by simp only [List.getElem?_toArray, List.getElem?_cons_succ, List.getElem?_cons_zero]; rfl) (by kernel_rfl) (by kernel_rfl) (by kernel_rfl) (by exact fun _ _ _ h => h) (Or.inl ⟨by rfl, ?_⟩) (by assumption) ?_; rotate_left; · (intro w hSw; (try dsimp only at hSw); go_simp; (try with_reducible rfl)))
                    try simp only [Act.put, List.setIfInBounds_toArray, List.set_cons_zero, List.set_cons_succ]
                    first | (refine wpAnyH_take (i := 4) (v := undef) (by simp only [List.getElem?_toArray, List.getElem?_cons_succ, List.getElem?_cons_zero]; rfl) (by kernel_rfl) (by kernel_rfl) (by kernel_rfl) (by exact fun _ _ _ h => h) (Or.inr ⟨by rfl, rfl⟩) (by assumption) ?_) | (refine wpAnyH_take (i := 4) (v := ?_) (by simp only [List.getElem?_toArray, List.getElem?_cons_succ, List.getElem?_cons_zero]; rfl) (by kernel_rfl) (by kernel_rfl) (by kernel_rfl) (by exact fun _ _ _ h => h) (Or.inl ⟨by rfl, ?_⟩) (by assumption) ?_; rotate_left; · (intro w hSw; (try dsimp only at hSw); go_simp; (try with_reducible rfl)))
                    try simp only [Act.put, List.setIfInBounds_toArray, List.set_cons_zero, List.set_cons_succ]
                    first | (refine wpAnyH_take (i := 5) (v := undef) (by simp only [List.getElem?_toArray, List.getElem?_cons_succ, List.getElem?_cons_zero]; rfl) (by kernel_rfl) (by kernel_rfl) (by kernel_rfl) (by exact fun _ _ _ h => h) (Or.inr ⟨by rfl, rfl⟩) (by assumption) ?_) | (refine wpAnyH_take (i := 5) (v := ?_) (by simp only [List.getElem?_toArray, List.getElem?_cons_succ, List.getElem?_cons_zero]; rfl) (by kernel_rfl) (by kernel_rfl) (by kernel_rfl) (by exact fun _ _ _ h => h) (Or.inl ⟨by rfl, ?_⟩) (by assumption) ?_; rotate_left; · (intro w hSw; (try dsimp only at hSw); go_simp; (try with_reducible rfl)))
                    try simp only [Act.put, List.setIfInBounds_toArray, List.set_cons_zero, List.set_cons_succ]
                    first | (refine wpAnyH_take (i := 6) (v := undef) (by simp only [List.getElem?_toArray, List.getElem?_cons_succ, List.getElem?_cons_zero]; rfl) (by kernel_rfl) (by kernel_rfl) (by kernel_rfl) (by exact fun _ _ _ h => h) (Or.inr ⟨by rfl, rfl⟩) (by assumption) ?_) | (refine wpAnyH_take (i := 6) (v := ?_) (by simp only [List.getElem?_toArray, List.getElem?_cons_succ, List.getElem?_cons_zero]; rfl) (by kernel_rfl) (by kernel_rfl) (by kernel_rfl) (by exact fun _ _ _ h => h) (Or.inl ⟨by rfl, ?_⟩) (by assumption) ?_; rotate_left; · (intro w hSw; (try dsimp only at hSw); go_simp; (try with_reducible rfl)))
                    try simp only [Act.put, List.setIfInBounds_toArray, List.set_cons_zero, List.set_cons_succ]
                    first | (refine wpAnyH_take (i := 7) (v := undef) (by simp only [List.getElem?_toArray, List.getElem?_cons_succ, List.getElem?_cons_zero]; rfl) (by kernel_rfl) (by kernel_rfl) (by kernel_rfl) (by exact fun _ _ _ h => h) (Or.inr ⟨by rfl, rfl⟩) (by assumption) ?_) | (refine wpAnyH_take (i := 7) (v := ?_) (by simp only [List.getElem?_toArray, List.getElem?_cons_succ, List.getElem?_cons_zero]; rfl) (by kernel_rfl) (by kernel_rfl) (by kernel_rfl) (by exact fun _ _ _ h => h) (Or.inl ⟨by rfl, ?_⟩) (by assumption) ?_; rotate_left; · (intro w hSw; (try dsimp only at hSw); go_simp; (try with_reducible rfl)))
                    try simp only [Act.put, List.setIfInBounds_toArray, List.set_cons_zero, List.set_cons_succ]
                    first | (refine wpAnyH_take (i := 8) (v := undef) (by simp only [List.getElem?_toArray, List.getElem?_cons_succ, List.getElem?_cons_zero]; rfl) (by kernel_rfl) (by kernel_rfl) (by kernel_rfl) (by exact fun _ _ _ h => h) (Or.inr ⟨by rfl, rfl⟩) (by assumption) ?_) | (refine wpAnyH_take (i := 8) (v := ?_) (by simp only [List.getElem?_toArray, List.getElem?_cons_succ, List.getElem?_cons_zero]; rfl) (by kernel_rfl) (by kernel_rfl) (by kernel_rfl) (by exact fun _ _ _ h => h) (Or.inl ⟨by rfl, ?_⟩) (by assumption) ?_; rotate_left; · (intro w hSw; (try dsimp only at hSw); go_simp; (try with_reducible rfl)))
                    try simp only [Act.put, List.setIfInBounds_toArray, List.set_cons_zero, List.set_cons_succ]
                    refine wpAnyH_ready (rs := [9]) (by kernel_rfl) (by simp) ?_
                    refine AllReadyH.cons rfl (fun KK hK => ?_) AllReadyH.nil
                    go_simp
                    refine (HM.out _).mono ?_
                    rintro e x1 ⟨rfl, ff⟩
                    have FA := Lib.hid ((Fr.refl NoB wr).drew.then ff)
                    clear ff
                    go_wp2_with (fail)
                    refine hK.out _ _ (HS.out _ FA.out) (fun hHeldFA => ?_)
                    clear hK KK
                    try simp only [Act.put, List.setIfInBounds_toArray, List.set_cons_zero, List.set_cons_succ]
                    first | (refine wpAnyH_take (i := 10) (v := undef) (by simp only [List.getElem?_toArray, List.getElem?_cons_succ, List.getElem?_cons_zero]; rfl) (by kernel_rfl) (by kernel_rfl) (by kernel_rfl) (by exact fun _ _ _ h => h) (Or.inr ⟨by rfl, rfl⟩) (by assumption) ?_) | (refine wpAnyH_take (i := 10) (v := ?_) (by simp only [List.getElem?_toArray, List.getElem?_cons_succ, List.getElem?_cons_zero]; rfl) (by kernel_rfl) (by kernel_rfl) (by kernel_rfl) (by exact fun _ _ _ h => h) (Or.inl ⟨by rfl, ?_⟩) (by assumption) ?_; rotate_left; · (intro w hSw; (try dsimp only at hSw); go_simp; (try with_reducible rfl)))
                    try simp only [Act.put, List.setIfInBounds_toArray, List.set_cons_zero, List.set_cons_succ]
                    first | (refine wpAnyH_take (i := 11) (v := undef) (by simp only [List.getElem?_toArray, List.getElem?_cons_succ, List.getElem?_cons_zero]; rfl) (by kernel_rfl) (by kernel_rfl) (by kernel_rfl) (by exact fun _ _ _ h => h) (Or.inr ⟨by rfl, rfl⟩) (by assumption) ?_) | (refine wpAnyH_take (i := 11) (v := ?_) (by simp only [List.getElem?_toArray, List.getElem?_cons_succ, List.getElem?_cons_zero]; rfl) (by kernel_rfl) (by kernel_rfl) (by kernel_rfl) (by exact fun _ _ _ h => h) (Or.inl ⟨by rfl, ?_⟩) (by assumption) ?_; rotate_left; · (intro w hSw; (try dsimp only at hSw); go_simp; (try with_reducible rfl)))
                    try simp only [Act.put, List.setIfInBounds_toArray, List.set_cons_zero, List.set_cons_succ]
                    first | (refine wpAnyH_take (i := 12) (v := undef) (by simp only [List.getElem?_toArray, List.getElem?_cons_succ, List.getElem?_cons_zero]; rfl) (by kernel_rfl) (by kernel_rfl) (by kernel_rfl) (by exact fun _ _ _ h => h) (Or.inr ⟨by rfl, rfl⟩) (by assumption) ?_) | (refine wpAnyH_take (i := 12) (v := ?_) (by simp only [List.getElem?_toArray, List.getElem?_cons_succ, List.getElem?_cons_zero]; rfl) (by kernel_rfl) (by kernel_rfl) (by kernel_rfl) (by exact fun _ _ _ h => h) (Or.inl ⟨by rfl, ?_⟩) (by assumption) ?_; rotate_left; · (intro w hSw; (try dsimp only at hSw); go_simp; (try with_reducible rfl)))
                    try simp only [Act.put, List.setIfInBounds_toArray, List.set_cons_zero, List.set_cons_succ]
                    first | (refine wpAnyH_take (i := 13) (v := undef) (by simp only [List.getElem?_toArray, List.getElem?_cons_succ, List.getElem?_cons_zero]; rfl) (by kernel_rfl) (by kernel_rfl) (by kernel_rfl) (by exact fun _ _ _ h => h) (Or.inr ⟨by rfl, rfl⟩) (by assumption) ?_) | (refine wpAnyH_take (i := 13) (v := ?_) (by simp only [List.getElem?_toArray, List.getElem?_cons_succ, List.getElem?_cons_zero]; rfl) (by kernel_rfl) (by kernel_rfl) (by kernel_rfl) (by exact fun _ _ _ h => h) (Or.inl ⟨by rfl, ?_⟩) (by assumption) ?_; rotate_left; · (intro w hSw; (try dsimp only at hSw); go_simp; (try with_reducible rfl)))
                    try simp only [Act.put, List.setIfInBounds_toArray, List.set_cons_zero, List.set_cons_succ]
                    first | (refine wpAnyH_take (i := 14) (v := undef) (by simp only [List.getElem?_toArray, List.getElem?_cons_succ, List.getElem?_cons_zero]; rfl) (by kernel_rfl) (by kernel_rfl) (by kernel_rfl) (by exact fun _ _ _ h => h) (Or.inr ⟨by rfl, rfl⟩) (by assumption) ?_) | (refine wpAnyH_take (i := 14) (v := ?_) (by simp only [List.getElem?_toArray, List.getElem?_cons_succ, List.getElem?_cons_zero]; rfl) (by kernel_rfl) (by kernel_rfl) (by kernel_rfl) (by exact fun _ _ _ h => h) (Or.inl ⟨by rfl, ?_⟩) (by assumption) ?_; rotate_left; · (intro w hSw; (try dsimp only at hSw); go_simp; (try with_reducible rfl)))
                    try simp only [Act.put, List.setIfInBounds_toArray, List.set_cons_zero, List.set_cons_succ]
                    first | (refine wpAnyH_take (i := 15) (v := undef) (by simp only [List.getElem?_toArray, List.getElem?_cons_succ, List.getElem?_cons_zero]; rfl) (by kernel_rfl) (by kernel_rfl) (by kernel_rfl) (by exact fun _ _ _ h => h) (Or.inr ⟨by rfl, rfl⟩) (by assumption) ?_) | (refine wpAnyH_take (i := 15) (v := ?_) (by simp only [List.getElem?_toArray, List.getElem?_cons_succ, List.getElem?_cons_zero]; rfl) (by kernel_rfl) (by kernel_rfl) (by kernel_rfl) (by exact fun _ _ _ h => h) (Or.inl ⟨by rfl, ?_⟩) (by assumption) ?_; rotate_left; · (intro w hSw; (try dsimp only at hSw); go_simp; (try with_reducible rfl)))
                    try simp only [Act.put, List.setIfInBounds_toArray, List.set_cons_zero, List.set_cons_succ]
                    first | (refine wpAnyH_take (i := 16) (v := undef) (by simp only [List.getElem?_toArray, List.getElem?_cons_succ, List.getElem?_cons_zero]; rfl) (by kernel_rfl) (by kernel_rfl) (by kernel_rfl) (by exact fun _ _ _ h => h) (Or.inr ⟨by rfl, rfl⟩) (by assumption) ?_) | (refine wpAnyH_take (i := 16) (v := ?_) (by simp only [List.getElem?_toArray, List.getElem?_cons_succ, List.getElem?_cons_zero]; rfl) (by kernel_rfl) (by kernel_rfl) (by kernel_rfl) (by exact fun _ _ _ h => h) (Or.inl ⟨by rfl, ?_⟩) (by assumption) ?_; rotate_left; · (intro w hSw; (try dsimp only at hSw); go_simp; (try with_reducible rfl)))
                    try simp only [Act.put, List.setIfInBounds_toArray, List.set_cons_zero, List.set_cons_succ]
                    first | (refine wpAnyH_take (i := 17) (v := undef) (by simp only [List.getElem?_toArray, List.getElem?_cons_succ, List.getElem?_cons_zero]; rfl) (by kernel_rfl) (by kernel_rfl) (by kernel_rfl) (by exact fun _ _ _ h => h) (Or.inr ⟨by rfl, rfl⟩) (by assumption) ?_) | (refine wpAnyH_take (i := 17) (v := ?_) (by simp only [List.getElem?_toArray, List.getElem?_cons_succ, List.getElem?_cons_zero]; rfl) (by kernel_rfl) (by kernel_rfl) (by kernel_rfl) (by exact fun _ _ _ h => h) (Or.inl ⟨by rfl, ?_⟩) (by assumption) ?_; rotate_left; · (intro w hSw; (try dsimp only at hSw); go_simp; (try with_reducible rfl)))
                    try simp only [Act.put, List.setIfInBounds_toArray, List.set_cons_zero, List.set_cons_succ]
                    first | (refine wpAnyH_take (i := 18) (v := undef) (by simp only [List.getElem?_toArray, List.getElem?_cons_succ, List.getElem?_cons_zero]; rfl) (by kernel_rfl) (by kernel_rfl) (by kernel_rfl) (by exact fun _ _ _ h => h) (Or.inr ⟨by rfl, rfl⟩) (by assumption) ?_) | (refine wpAnyH_take (i := 18) (v := ?_) (by simp only [List.getElem?_toArray, List.getElem?_cons_succ, List.getElem?_cons_zero]; rfl) (by kernel_rfl) (by kernel_rfl) (by kernel_rfl) (by exact fun _ _ _ h => h) (Or.inl ⟨by rfl, ?_⟩) (by assumption) ?_; rotate_left; · (intro w hSw; (try dsimp only at hSw); go_simp; (try with_reducible rfl)))
                    try simp only [Act.put, List.setIfInBounds_toArray, List.set_cons_zero, List.set_cons_succ]
                    first | (refine wpAnyH_take (i := 19) (v := undef) (by simp only [List.getElem?_toArray, List.getElem?_cons_succ, List.getElem?_cons_zero]; rfl) (by kernel_rfl) (by kernel_rfl) (by kernel_rfl) (by exact fun _ _ _ h => h) (Or.inr ⟨by rfl, rfl⟩) (by assumption) ?_) | (refine wpAnyH_take (i := 19) (v := ?_) (by simp only [List.getElem?_toArray, List.getElem?_cons_succ, List.getElem?_cons_zero]; rfl) (by kernel_rfl) (by kernel_rfl) (by kernel_rfl) (by exact fun _ _ _ h => h) (Or.inl ⟨by rfl, ?_⟩) (by assumption) ?_; rotate_left; · (intro w hSw; (try dsimp only at hSw); go_simp; (try with_reducible rfl)))
                    try simp only [Act.put, List.setIfInBounds_toArray, List.set_cons_zero, List.set_cons_succ]
                    first | (refine wpAnyH_take (i := 20) (v := undef) (by simp only [List.getElem?_toArray, List.getElem?_cons_succ, List.getElem?_cons_zero]; rfl) (by kernel_rfl) (by kernel_rfl) (by kernel_rfl) (by exact fun _ _ _ h => h) (Or.inr ⟨by rfl, rfl⟩) (by assumption) ?_) | (refine wpAnyH_take (i := 20) (v := ?_) (by simp only [List.getElem?_toArray, List.getElem?_cons_succ, List.getElem?_cons_zero]; rfl) (by kernel_rfl) (by kernel_rfl) (by kernel_rfl) (by exact fun _ _ _ h => h) (Or.inl ⟨by rfl, ?_⟩) (by assumption) ?_; rotate_left; · (intro w hSw; (try dsimp only at hSw); go_simp; (try with_reducible rfl)))
                    try simp only [Act.put, List.setIfInBounds_toArray, List.set_cons_zero, List.set_cons_succ]
                    first | (refine wpAnyH_take (i := 21) (v := undef) (by simp only [List.getElem?_toArray, List.getElem?_cons_succ, List.getElem?_cons_zero]; rfl) (by kernel_rfl) (by kernel_rfl) (by kernel_rfl) (by exact fun _ _ _ h => h) (Or.inr ⟨by rfl, rfl⟩) (by assumption) ?_) | (refine wpAnyH_take (i := 21) (v := ?_) (by simp only [List.getElem?_toArray, List.getElem?_cons_succ, List.getElem?_cons_zero]; rfl) (by kernel_rfl) (by kernel_rfl) (by kernel_rfl) (by exact fun _ _ _ h => h) (Or.inl ⟨by rfl, ?_⟩) (by assumption) ?_; rotate_left; · (intro w hSw; (try dsimp only at hSw); go_simp; (try with_reducible rfl)))
                    try simp only [Act.put, List.setIfInBounds_toArray, List.set_cons_zero, List.set_cons_succ]
                    first | (refine wpAnyH_take (i := 22) (v := undef) (by simp only [List.getElem?_toArray, List.getElem?_cons_succ, List.getElem?_cons_zero]; rfl) (by kernel_rfl) (by kernel_rfl) (by kernel_rfl) (by exact fun _ _ _ h => h) (Or.inr ⟨by rfl, rfl⟩) (by assumption) ?_) | (refine wpAnyH_take (i := 22) (v := ?_) (by simp only [List.getElem?_toArray, List.getElem?_cons_succ, List.getElem?_cons_zero]; rfl) (by kernel_rfl) (by kernel_rfl) (by kernel_rfl) (by exact fun _ _ _ h => h) (Or.inl ⟨by rfl, ?_⟩) (by assumption) ?_; rotate_left; · (intro w hSw; (try dsimp only at hSw); go_simp; (try with_reducible rfl)))
                    try simp only [Act.put, List.setIfInBounds_toArray, List.set_cons_zero, List.set_cons_succ]
                    first | (refine wpAnyH_take (i := 23) (v := undef) (by simp only [List.getElem?_toArray, List.getElem?_cons_succ, List.getElem?_cons_zero]; rfl) (by kernel_rfl) (by kernel_rfl) (by kernel_rfl) (by exact fun _ _ _ h => h) (Or.inr ⟨by rfl, rfl⟩) (by assumption) ?_) | (refine wpAnyH_take (i := 23) (v := ?_) (by simp only [List.getElem?_toArray, List.getElem?_cons_succ, List.getElem?_cons_zero]; rfl) (by kernel_rfl) (by kernel_rfl) (by kernel_rfl) (by exact fun _ _ _ h => h) (Or.inl ⟨by rfl, ?_⟩) (by assumption) ?_; rotate_left; · (intro w hSw; (try dsimp only at hSw); go_simp; (try with_reducible rfl)))
                    try simp only [Act.put, List.setIfInBounds_toArray, List.set_cons_zero, List.set_cons_succ]
                    first | (refine wpAnyH_take (i := 24) (v := undef) (by simp only [List.getElem?_toArray, List.getElem?_cons_succ, List.getElem?_cons_zero]; rfl) (by kernel_rfl) (by kernel_rfl) (by kernel_rfl) (by exact fun _ _ _ h => h) (Or.inr ⟨by rfl, rfl⟩) (by assumption) ?_) | (refine wpAnyH_take (i := 24) (v := ?_) (by simp only [List.getElem?_toArray, List.getElem?_cons_succ, List.getElem?_cons_zero]; rfl) (by kernel_rfl) (by kernel_rfl) (by kernel_rfl) (by exact fun _ _ _ h => h) (Or.inl ⟨by rfl, ?_⟩) (by assumption) ?_; rotate_left; · (intro w hSw; (try dsimp only at hSw); go_simp; (try with_reducible rfl)))
                    try simp only [Act.put, List.setIfInBounds_toArray, List.set_cons_zero, List.set_cons_succ]
                    first | (refine wpAnyH_take (i := 25) (v := undef) (by simp only [List.getElem?_toArray, List.getElem?_cons_succ, List.getElem?_cons_zero]; rfl) (by kernel_rfl) (by kernel_rfl) (by kernel_rfl) (by exact fun _ _ _ h => h) (Or.inr ⟨by rfl, rfl⟩) (by assumption) ?_) | (refine wpAnyH_take (i := 25) (v := ?_) (by simp only [List.getElem?_toArray, List.getElem?_cons_succ, List.getElem?_cons_zero]; rfl) (by kernel_rfl) (by kernel_rfl) (by kernel_rfl) (by exact fun _ _ _ h => h) (Or.inl ⟨by rfl, ?_⟩) (by assumption) ?_; rotate_left; · (intro w hSw; (try dsimp only at hSw); go_simp; (try with_reducible rfl)))
                    try simp only [Act.put, List.setIfInBounds_toArray, List.set_cons_zero, List.set_cons_succ]
                    first | (refine wpAnyH_take (i := 26) (v := undef) (by simp only [List.getElem?_toArray, List.getElem?_cons_succ, List.getElem?_cons_zero]; rfl) (by kernel_rfl) (by kernel_rfl) (by kernel_rfl) (by exact fun _ _ _ h => h) (Or.inr ⟨by rfl, rfl⟩) (by assumption) ?_) | (refine wpAnyH_take (i := 26) (v := ?_) (by simp only [List.getElem?_toArray, List.getElem?_cons_succ, List.getElem?_cons_zero]; rfl) (by kernel_rfl) (by kernel_rfl) (by kernel_rfl) (by exact fun _ _ _ h => h) (Or.inl ⟨by rfl, ?_⟩) (by assumption) ?_; rotate_left; · (intro w hSw; (try dsimp only at hSw); go_simp; (try with_reducible rfl)))
                    try simp only [Act.put, List.setIfInBounds_toArray, List.set_cons_zero, List.set_cons_succ]
                    first | (refine wpAnyH_take (i := 27) (v := undef) (by simp only [List.getElem?_toArray, List.getElem?_cons_succ, List.getElem?_cons_zero]; rfl) (by kernel_rfl) (by kernel_rfl) (by kernel_rfl) (by exact fun _ _ _ h => h) (Or.inr ⟨by rfl, rfl⟩) (by assumption) ?_) | (refine wpAnyH_take (i := 27) (v := ?_) (by simp only [List.getElem?_toArray, List.getElem?_cons_succ, List.getElem?_cons_zero]; rfl) (by kernel_rfl) (by kernel_rfl) (by kernel_rfl) (by exact fun _ _ _ h => h) (Or.inl ⟨by rfl, ?_⟩) (by assumption) ?_; rotate_left; · (intro w hSw; (try dsimp only at hSw); go_simp; (try with_reducible rfl)))
                    try simp only [Act.put, List.setIfInBounds_toArray, List.set_cons_zero, List.set_cons_succ]
                    first | (refine wpAnyH_take (i := 28) (v := undef) (by simp only [List.getElem?_toArray, List.getElem?_cons_succ, List.getElem?_cons_zero]; rfl) (by kernel_rfl) (by kernel_rfl) (by kernel_rfl) (by exact fun _ _ _ h => h) (Or.inr ⟨by rfl, rfl⟩) (by assumption) ?_) | (refine wpAnyH_take (i := 28) (v := ?_) (by simp only [List.getElem?_toArray, List.getElem?_cons_succ, List.getElem?_cons_zero]; rfl) (by kernel_rfl) (by kernel_rfl) (by kernel_rfl) (by exact fun _ _ _ h => h) (Or.inl ⟨by rfl, ?_⟩) (by assumption) ?_; rotate_left; · (intro w hSw; (try dsimp only at hSw); go_simp; (try with_reducible rfl)))
                    try simp only [Act.put, List.setIfInBounds_toArray, List.set_cons_zero, List.set_cons_succ]
                    first | (refine wpAnyH_take (i := 29) (v := undef) (by simp only [List.getElem?_toArray, List.getElem?_cons_succ, List.getElem?_cons_zero]; rfl) (by kernel_rfl) (by kernel_rfl) (by kernel_rfl) (by exact fun _ _ _ h => h) (Or.inr ⟨by rfl, rfl⟩) (by assumption) ?_) | (refine wpAnyH_take (i := 29) (v := ?_) (by simp only [List.getElem?_toArray, List.getElem?_cons_succ, List.getElem?_cons_zero]; rfl) (by kernel_rfl) (by kernel_rfl) (by kernel_rfl) (by exact fun _ _ _ h => h) (Or.inl ⟨by rfl, ?_⟩) (by assumption) ?_; rotate_left; · (intro w hSw; (try dsimp only at hSw); go_simp; (try with_reducible rfl)))
                    try simp only [Act.put, List.setIfInBounds_toArray, List.set_cons_zero, List.set_cons_succ]
                    first | (refine wpAnyH_take (i := 30) (v := undef) (by simp only [List.getElem?_toArray, List.getElem?_cons_succ, List.getElem?_cons_zero]; rfl) (by kernel_rfl) (by kernel_rfl) (by kernel_rfl) (by exact fun _ _ _ h => h) (Or.inr ⟨by rfl, rfl⟩) (by assumption) ?_) | (refine wpAnyH_take (i := 30) (v := ?_) (by simp only [List.getElem?_toArray, List.getElem?_cons_succ, List.getElem?_cons_zero]; rfl) (by kernel_rfl) (by kernel_rfl) (by kernel_rfl) (by exact fun _ _ _ h => h) (Or.inl ⟨by rfl, ?_⟩) (by assumption) ?_; rotate_left; · (intro w hSw; (try dsimp only at hSw); go_simp; (try with_reducible rfl)))
                    try simp only [Act.put, List.setIfInBounds_toArray, List.set_cons_zero, List.set_cons_succ]
                    first | (refine wpAnyH_take (i := 31) (v := undef) (by simp only [List.getElem?_toArray, List.getElem?_cons_succ, List.getElem?_cons_zero]; rfl) (by kernel_rfl) (by kernel_rfl) (by kernel_rfl) (by exact fun _ _ _ h => h) (Or.inr ⟨by rfl, rfl⟩) (by assumption) ?_) | (refine wpAnyH_take (i := 31) (v := ?_) (by simp only [List.getElem?_toArray, List.getElem?_cons_succ, List.getElem?_cons_zero]; rfl) (by kernel_rfl) (by kernel_rfl) (by kernel_rfl) (by exact fun _ _ _ h => h) (Or.inl ⟨by rfl, ?_⟩) (by assumption) ?_; rotate_left; · (intro w hSw; (try dsimp only at hSw); go_simp; (try with_reducible rfl)))
                    try simp only [Act.put, List.setIfInBounds_toArray, List.set_cons_zero, List.set_cons_succ]
                    first | (refine wpAnyH_take (i := 32) (v := undef) (by simp only [List.getElem?_toArray, List.getElem?_cons_succ, List.getElem?_cons_zero]; rfl) (by kernel_rfl) (by kernel_rfl) (by kernel_rfl) (by exact fun _ _ _ h => h) (Or.inr ⟨by rfl, rfl⟩) (by assumption) ?_) | (refine wpAnyH_take (i := 32) (v := ?_) (by simp only [List.getElem?_toArray, List.getElem?_cons_succ, List.getElem?_cons_zero]; rfl) (by kernel_rfl) (by kernel_rfl) (by kernel_rfl) (by exact fun _ _ _ h => h) (Or.inl ⟨by rfl, ?_⟩) (by assumption) ?_; rotate_left; · (intro w hSw; (try dsimp only at hSw); go_simp; (try with_reducible rfl)))
                    try simp only [Act.put, List.setIfInBounds_toArray, List.set_cons_zero, List.set_cons_succ]
                    first | (refine wpAnyH_take (i := 33) (v := undef) (by simp only [List.getElem?_toArray, List.getElem?_cons_succ, List.getElem?_cons_zero]; rfl) (by kernel_rfl) (by kernel_rfl) (by kernel_rfl) (by exact fun _ _ _ h => h) (Or.inr ⟨by rfl, rfl⟩) (by assumption) ?_) | (refine wpAnyH_take (i := 33) (v := ?_) (by simp only [List.getElem?_toArray, List.getElem?_cons_succ, List.getElem?_cons_zero]; rfl) (by kernel_rfl) (by kernel_rfl) (by kernel_rfl) (by exact fun _ _ _ h => h) (Or.inl ⟨by rfl, ?_⟩) (by assumption) ?_; rotate_left; · (intro w hSw; (try dsimp only at hSw); go_simp; (try with_reducible rfl)))
                    try simp only [Act.put, List.setIfInBounds_toArray, List.set_cons_zero, List.set_cons_succ]
                    first | (refine wpAnyH_take (i := 34) (v := undef) (by simp only [List.getElem?_toArray, List.getElem?_cons_succ, List.getElem?_cons_zero]; rfl) (by kernel_rfl) (by kernel_rfl) (by kernel_rfl) (by exact fun _ _ _ h => h) (Or.inr ⟨by rfl, rfl⟩) (by assumption) ?_) | (refine wpAnyH_take (i := 34) (v := ?_) (by simp only [List.getElem?_toArray, List.getElem?_cons_succ, List.getElem?_cons_zero]; rfl) (by kernel_rfl) (by kernel_rfl) (by kernel_rfl) (by exact fun _ _ _ h => h) (Or.inl ⟨by rfl, ?_⟩) (by assumption) ?_; rotate_left; · (intro w hSw; (try dsimp only at hSw); go_simp; (try with_reducible rfl)))
                    try simp only [Act.put, List.setIfInBounds_toArray, List.set_cons_zero, List.set_cons_succ]
                    refine wpAnyH_done (by kernel_rfl) ?_ _
                    have G2 := Lib.hid (GI.out.fr FA.out)
                    have F2 := Lib.hid (FI.out.then FA.out.no)
                    clear hHeld hHeldFA hgs hls
                    go_wp2
                    go_roundw
                    case rel => exact ⟨rfl, i + 1, by omega, by go_num, G2.out, F2.out⟩
                    case measure => simp [intOf]; omega
                · obtain rfl : i = n + 64 := by omega
                  clear hli
                  go_wp2
                  go_roundw
                  case rel => exact ⟨rfl, p + 1, by omega, by go_num, GI.out, FI.out⟩
                  case measure => simp [intOf]; omega
            · obtain rfl : p = q := by omega
              have hnew : Grw wr B p L cL GS V N U U (fun j => mks j (N j) ++ mks (j + p) 64) 0 := ⟨GP.out.lay, by
                have h := GP.out.gs
                rw [List.map_congr_left (g := fun j => if j < 0 then U j else U j) (fun j hj => by rw [if_pos (by simpa using hj)]; simp)] at h
                exact h, fun j hj => by omega, fun j hj => by omega⟩
              have G0 := Lib.hid hnew
              have hub := GP.out.us
              have HUF := Lib.hid (fun j (hj : j < p) => own_form4 (hub j hj))
              clear hnew GP hlt hp hub
              obtain ⟨wo3, hwo3⟩ : ∃ wo : World, wo = wr := ⟨_, rfl⟩
              go_wp2
              go_loopw [11, 12, 13] (fun s11 _ _ wx => ∃ (q : Nat) (U2 : Nat → Value), q ≤ p ∧ s11 = .int .i64 (q : Int) ∧ Grw wx B p L cL GS V N U2 U (fun j => mks j (N j) ++ mks (j + p) 64) q ∧ Fr M2 w wx) (fun s11 _ _ _ => p - (intOf s11).toNat)
              case atStart => exact ⟨0, U, Nat.zero_le _, rfl, G0.out, FP.out⟩
              case round =>
                obtain ⟨q, U2, hq, rfl, hgrw, hf⟩ := hrel
                have GW := Lib.hid hgrw
                have FR := Lib.hid hf
                clear hgrw hf G0 FP
                by_cases hlt : q < p
                · have hqi : (q : Int) < (p : Int) := by omega
                  obtain ⟨A, c, hV, hnc, hcm⟩ := own_form4 (GW.out.lay.own q hlt)
                  have HV := Lib.hid hV
                  have hnk := HN.out q hlt
                  obtain ⟨n, hn⟩ : ∃ n, N q = n := ⟨_, rfl⟩
                  have HNK := Lib.hid hn
                  rw [hn] at hnk hnc
                  have hni : (n : Int) ≤ 100000000000000 := by omega
                  obtain ⟨H, hH⟩ : ∃ H, wr.heap.size = H := ⟨_, rfl⟩
                  have HVH := Lib.hid (fun i (hi : i < p) g (hg : (V i).ownBlock = some g) => (show g < H by rw [← hH]; exact ((GW.out.lay.own i hi).lt g hg).2))
                  have HUH := Lib.hid (fun j (hj : j < q) g (hg : (U2 j).ownBlock = some g) => (show g < H by rw [← hH]; exact ((GW.out.us j hj).lt g hg).2))
                  have HLH : Hid (L < H) := by rw [← hH]; exact (GW.out.lay.ls.lt L rfl).2
                  have HGH : Hid (GS < H) := by rw [← hH]; exact (GW.out.gs.lt GS rfl).2
                  have HBH : Hid (B ≤ H) := Nat.le_trans HBL.out (Nat.le_of_lt HLH.out)
                  have HVN := Lib.hid (show V q = .slice A n c by rw [HV.out, HNK.out])
                  obtain ⟨wm, hmk2, hown2, hgr2⟩ := run_make_full (P := Try.prog) (w := wr) B 22 5 i0 (.int .u8 0) 1 Try.underlying22 hi0 hz0 hz1 .i64 .i64 64 (by rw [hz2]; omega) (by decide) (by rw [hH]; exact HBH.out)
                  rw [show ((64 : Nat) : Int) = 64 from rfl] at hmk2
                  rw [show (madeCells (Value.int .u8 0).cells (64 * 1)).toList = bv (List.replicate 64 0) by rw [show (Value.int .u8 0).cells = #[.int .u8 0] from rfl, Nat.mul_one, toList_madeCells_one]; simp [bv]] at hown2
                  rw [hH] at hmk2 hown2
                  have fm := Fr.ofGrown (M := NoB) hgr2 (fun _ _ hx => by cases hx)
                  have GM := Lib.hid (GW.out.fr fm)
                  have FM := Lib.hid (FR.out.then fm.no)
                  have OM := Lib.hid hown2
                  have HM0 := Lib.hid (show H ≤ wm.heap.size by rw [← hH]; exact fm.size)
                  clear hV hn hgr2 hown2 fm GW FR HV
                  obtain ⟨wo4, hwo4⟩ : ∃ wo : World, wo = wr := ⟨_, rfl⟩
                  go_wp2
                  clear hmk2
                  go_loopw [13] (fun s13 wx => ∃ (i : Nat) (Ym : List UInt8), i ≤ 64 ∧ s13 = .int .i64 (i : Int) ∧ Grw wx B p L cL GS V N U2 U (fun j => mks j (N j) ++ mks (j + p) 64) q ∧ wx.ownsRow B 5 1 (.slice (some ⟨H, 0, none⟩) 64 64) 64 (bv Ym) ∧ (∀ i', i' < i → Ym[i']? = some (mb (q + p) i')) ∧ Fr M2 w wx ∧ H ≤ wx.heap.size) (fun s13 _ => 64 - (intOf s13).toNat)
                  case atStart => exact ⟨0, _, Nat.zero_le _, rfl, GM.out, OM.out, fun i' hi' => by omega, FM.out, HM0.out⟩
                  case round =>
                    obtain ⟨i, Ym, hi, rfl, hgrw, hom, hym, hf, hH2⟩ := hrel
                    have GX := Lib.hid hgrw
                    have OX := Lib.hid hom
                    have YX := Lib.hid hym
                    have FX := Lib.hid hf
                    have HX := Lib.hid hH2
                    clear hgrw hom hym hf hH2 GM OM FM HM0
                    by_cases hli : i < 64
                    · have hii : (i : Int) < 64 := by omega
                      have hw : IntKind.i64.wrap ((q : Int) + (p : Int)) = (q : Int) + (p : Int) := by rw [IntKind.wrap_i64]; omega
                      have hm := fun W => HMB.out (q + p) i (by omega) (by omega) W
                      rw [show ((q + p : Nat) : Int) = (q : Int) + (p : Int) by omega] at hm
                      have HM := Lib.hid hm
                      clear hm
                      go_wp2_with (fail)
                      refine (HM.out _).mono ?_
                      rintro e w2 ⟨rfl, f2⟩
                      have O2 := Lib.hid (own_keep OX.out fun b hb => f2.block b (OX.out.lt b hb).2 (fun x => x))
                      have G2 := Lib.hid (GX.out.fr f2)
                      have hyl := bv_len_own OX.out
                      have hcc := own_cell (i := i) O2.out (bv_get _ i (by omega))
                      have hc1 := hcc.1
                      have hc2 := hcc.2
                      have O3 := Lib.hid (own_set (i := i) (u := .int .u8 ((mb (q + p) i).toNat : Int)) O2.out)
                      have fs : Fr (OneB H) w2 (w2.setCell ⟨H, i, none⟩ (.int .u8 ((mb (q + p) i).toNat : Int))) := (Fr.refl (OneB H) w2).setCell (p := ⟨H, i, none⟩) (fun _ => rfl) _
                      have G3 := Lib.hid (G2.out.frk fs p (fun hx => absurd hx (Nat.lt_irrefl p)) (fun e => by have := HLH.out; simp only [OneB] at e; omega) (fun e => by have := HGH.out; simp only [OneB] at e; omega) (fun i hi _ g hg e => by have := HVH.out i hi g hg; simp only [OneB] at e; omega) (fun j hj g hg e => by have := HUH.out j hj g hg; simp only [OneB] at e; omega))
                      have F3 := Lib.hid ((FX.out.then f2.no).setCell (p := ⟨H, i, none⟩) (fun _ => HMW.out H (Nat.le_trans HGW.out (Nat.le_of_lt HGH.out))) (.int .u8 ((mb (q + p) i).toNat : Int)))
                      have H3 := Lib.hid (Nat.le_trans (Nat.le_trans HX.out f2.size) fs.size)
                      have hyn : ∀ i', i' < i + 1 → (Ym.set i (mb (q + p) i))[i']? = some (mb (q + p) i') := fun i' hi' => by
                        rw [List.getElem?_set]
                        by_cases hx : i = i'
                        · subst hx
                          rw [if_pos rfl, if_pos (by omega)]
                        · rw [if_neg hx]
                          exact YX.out i' (by omega)
                      have YN := Lib.hid hyn
                      clear f2 fs hcc hyn GX OX YX FX HX O2 G2 HM
                      go_wp2
                      go_roundw
                      case rel => exact ⟨i + 1, _, by omega, by go_num, G3.out, by rw [← bv_set]; exact O3.out, YN.out, F3.out, H3.out⟩
                      case measure => simp [intOf]; omega
                    · obtain rfl : i = 64 := by omega
                      have hYm : Ym = mks (q + p) 64 := mks_of (bv_len_own OX.out) YX.out
                      subst hYm
                      have hls := GX.out.lay.at_ hlt
                      rw [HVN.out] at hls
                      have OV := Lib.hid (show wr.ownsRow B 5 1 (.slice A n c) n (bv (mks q n)) by have h := GX.out.lay.own q hlt; rw [HVN.out, HNK.out] at h; exact h)
                      have HNW := Lib.hid (OX.out.cells (g := H) rfl)
                      clear YX hli
                      go_wp2_with (at_builtin; go_loud (refine wpList_append_two _ rfl _ _ 22 rfl B 5 i0 (.int .u8 0) 1 Try.underlying22 hi0 hz0 hz1 hz2 rfl (.slice A n c) n (bv (mks q n)) rfl OV.out _ 64 _ (bv (mks (q + p) 64)) rfl (by simp) (by decide) HNW.out (bv_one _) (by unfold maxLen; omega) (by omega) (Nat.le_trans HBH.out HX.out) ?_))
                      intro v3 w3 hown3 hcase
                      have AL : Alt H n 0 (V q) (.slice A n c) := .inl ⟨rfl, HVN.out.symm⟩
                      have hcase2 : (∃ g0 cap, Value.slice A n c = .slice (some ⟨g0, 0, none⟩) (n + 0) cap ∧ v3 = .slice (some ⟨g0, 0, none⟩) (n + 0 + 64) cap ∧ Fr (OneB g0) wr w3) ∨ (∃ b, v3.ownBlock = some b ∧ H ≤ b ∧ Fr NoB wr w3) := by
                        rcases hcase with ⟨g0, cap, ⟨h1, h2⟩, hv, f⟩ | ⟨hv, f⟩
                        · exact .inl ⟨g0, cap, by rw [h1, h2]; rfl, hv, f⟩
                        · exact .inr ⟨_, hv, HX.out, f⟩
                      obtain ⟨g3, a3, f3⟩ := grow_step (i := 0) GX.out hlt HFar.out HGS.out HNK.out AL HVH.out HUH.out HLH.out HGH.out (HMV.out q hlt) (fun g hg => HMW.out g (Nat.le_trans HGW.out (Nat.le_trans (Nat.le_of_lt HGH.out) hg))) hown3 hcase2
                      have HBF := Lib.hid (alt_far HFar.out hlt HGS.out HVH.out HLH.out HGH.out a3)
                      have HGOO := Lib.hid (show w3.ownsRow B 5 1 v3 (N q + 64) (bv (mks q (N q) ++ mks (q + p) 64)) by rw [HNK.out, bv_append]; exact hown3)
                      have G5 := Lib.hid (g3.put hlt (fun i hi hx => HGS.out i hi hx) HLG.out HGOO.out HBF.out)
                      have F5 := Lib.hid ((FX.out.then f3).setCell (p := ⟨GS, q, none⟩) (fun _ => HMW.out GS HGW.out) v3)
                      obtain ⟨A4, c4, hg4, -, -⟩ := own_form4 HGOO.out
                      obtain ⟨A5, c5, hg5, -, -⟩ := HUF.out q hlt
                      have hgc := (g3.at_ hlt).1
                      have hgz := (g3.at_ hlt).2
                      rw [if_neg (Nat.lt_irrefl q), hg5] at hgc
                      subst hg4
                      clear g3 a3 f3 hown3 hcase hcase2 AL GX FX HGOO HBF hls OV HNW OX hg5
                      go_wp2
                      go_roundw
                      case rel => exact ⟨q + 1, _, by omega, by go_num, G5.out, F5.out⟩
                      case measure => simp [intOf]; omega
                · obtain rfl : q = p := by omega
                  have GX := Lib.hid GW.out
                  clear GW hlt hq HUF
                  obtain ⟨wo4, hwo4⟩ : ∃ wo : World, wo = wr := ⟨_, rfl⟩
                  go_wp2
                  go_loopw [2, 14, 15] (fun r s14 _ wx => r = .bool false ∧ ∃ t : Nat, t ≤ q ∧ s14 = .int .i64 (t : Int) ∧ Grw wx B q L cL GS V N U2 U (fun j => mks j (N j) ++ mks (j + q) 64) q ∧ Fr M2 w wx) (fun _ s14 _ _ => q - (intOf s14).toNat)
                  case atStart => exact ⟨rfl, 0, Nat.zero_le _, rfl, GX.out, FR.out⟩
                  case round =>
                    obtain ⟨rfl, t, htq, rfl, hgrw, hf⟩ := hrel
                    have GP := Lib.hid hgrw
                    have FP := Lib.hid hf
                    clear hgrw hf GX FR
                    by_cases hlt : t < q
                    · have hpi : (t : Int) < (q : Int) := by omega
                      obtain ⟨A, c, hV, hnc, hcm⟩ := own_form4 (GP.out.lay.own t hlt)
                      obtain ⟨gu, cu, hU, -, -⟩ := (GP.out.us t hlt).form (by omega)
                      have hucl := (GP.out.us t hlt).2
                      have hnk := HN.out t hlt
                      obtain ⟨n, hn⟩ : ∃ n, N t = n := ⟨_, rfl⟩
                      have hcu : n + 64 ≤ cu := by
                        rcases hucl with ⟨_, h0⟩ | ⟨g1, c1, cur, hv, _, _, h3, _⟩
                        · omega
                        · rw [hU] at hv; cases hv; omega
                      rw [hn] at hnk hnc hV hU
                      have HV := Lib.hid hV
                      have HU := Lib.hid hU
                      have HNK := Lib.hid hn
                      have hni : (n : Int) ≤ 100000000000000 := by omega
                      clear hV hU hn hucl
                      obtain ⟨wo5, hwo5⟩ : ∃ wo : World, wo = wr := ⟨_, rfl⟩
                      go_wp2
                      go_loopw [2, 15] (fun r s15 wx => r = .bool false ∧ ∃ i : Nat, i ≤ n ∧ s15 = .int .i64 (i : Int) ∧ Grw wx B q L cL GS V N U2 U (fun j => mks j (N j) ++ mks (j + q) 64) q ∧ Fr M2 w wx) (fun _ s15 _ => n - (intOf s15).toNat)
                      case atStart => exact ⟨rfl, 0, Nat.zero_le _, rfl, GP.out, FP.out⟩
                      case round =>
                        obtain ⟨rfl, i, hi, rfl, hgrw, hf⟩ := hrel
                        have GI := Lib.hid hgrw
                        have FI := Lib.hid hf
                        clear hgrw hf
                        have hgs := (GI.out.at_ hlt).1
                        rw [if_pos hlt, HU.out] at hgs
                        have hls := GI.out.lay.at_ hlt
                        rw [HV.out] at hls
                        have HGSC := Lib.hid hgs
                        have HLSC := Lib.hid hls
                        by_cases hli : i < n
                        · have hii : (i : Int) < (n : Int) := by omega
                          have hii2 : (i : Int) < (n : Int) + 64 := by omega
                          have hcg := own_cell (w := wr) (g := gu) (i := i) (u := .int .u8 ((mb t i).toNat : Int)) (by rw [← HU.out, ← HNK.out]; exact GI.out.us t hlt) (by rw [bv_get _ i (by rw [List.length_append, mks_length, HNK.out]; omega), List.getD, List.getElem?_append_left (by rw [mks_length, HNK.out]; exact hli), mks_get (by rw [HNK.out]; exact hli)]; rfl)
                          have HCG := Lib.hid hcg
                          have HM := Lib.hid (fun W => HMB.out t i (by omega) (by omega) W)
                          have hbg := World.block_lt_of_cell? wr _ hcg.1
                          have hbl := World.block_lt_of_cell? wr _ hls
                          have hbs := World.block_lt_of_cell? wr _ hgs
                          clear hcg
                          obtain ⟨gv, cv, hVv, -, -⟩ := (GI.out.lay.own t hlt).form (by rw [HNK.out]; omega)
                          have hVV := hVv
                          rw [HV.out, HNK.out] at hVV
                          cases hVV
                          have hcv := own_cell (w := wr) (g := gv) (i := i) (u := .int .u8 ((mb t i).toNat : Int)) (by rw [← HNK.out] at *; rw [← hVv]; exact GI.out.lay.own t hlt) (by rw [bv_get _ i (by rw [mks_length, HNK.out]; exact hli), List.getD, mks_get (by rw [HNK.out]; exact hli)]; rfl)
                          have hbv := World.block_lt_of_cell? wr _ hcv.1
                          have HCV := Lib.hid hcv
                          have HS := Lib.hid (fun W (f : Fr NoB wr W) => (show (fun W => W.cell? ⟨GS, t, none⟩ = some (.slice (some ⟨gu, 0, none⟩) (n + 64) cu) ∧ W.cell? ⟨L, t, none⟩ = some (.slice (some ⟨gv, 0, none⟩) n c) ∧ W.cell? ⟨gu, i, none⟩ = some (.int .u8 ((mb t i).toNat : Int)) ∧ W.cell? ⟨gv, i, none⟩ = some (.int .u8 ((mb t i).toNat : Int))) W from ⟨(f.cell (p := ⟨GS, t, none⟩) hbs (fun x => x)).trans HGSC.out, (f.cell (p := ⟨L, t, none⟩) hbl (fun x => x)).trans HLSC.out, (f.cell (p := ⟨gu, i, none⟩) hbg (fun x => x)).trans HCG.out.1, (f.cell (p := ⟨gv, i, none⟩) hbv (fun x => x)).trans HCV.out.1⟩))
                          clear hVv hcv
                          go_wp2
                          refine wp_region_held_drew (S := fun W => W.cell? ⟨GS, t, none⟩ = some (.slice (some ⟨gu, 0, none⟩) (n + 64) cu) ∧ W.cell? ⟨L, t, none⟩ = some (.slice (some ⟨gv, 0, none⟩) n c) ∧ W.cell? ⟨gu, i, none⟩ = some (.int .u8 ((mb t i).toNat : Int)) ∧ W.cell? ⟨gv, i, none⟩ = some (.int .u8 ((mb t i).toNat : Int))) (by kernel_rfl) (HS.out _ (Fr.refl NoB wr).drew) (fun hHeld => ?_)
                          first | (refine wpAnyH_take (i := 0) (v := undef) (by simp only [List.getElem?_toArray, List.getElem?_cons_zero]; rfl) (by kernel_rfl) (by kernel_rfl) (by kernel_rfl) (by exact fun _ _ _ h => h) (Or.inr ⟨by rfl, rfl⟩) (by assumption) ?_) | (refine wpAnyH_take (i := 0) (v := ?_) (by simp only [List.getElem?_toArray, List.getElem?_cons_zero]; rfl) (by kernel_rfl) (by kernel_rfl) (by kernel_rfl) (by exact fun _ _ _ h => h) (Or.inl ⟨by rfl, ?_⟩) (by assumption) ?_; rotate_left; · (intro w hSw; (try dsimp only at hSw); go_simp; (try with_reducible rfl)))
                          try simp only [Act.put, List.setIfInBounds_toArray, List.set_cons_zero, List.set_cons_succ]
                          first | (refine wpAnyH_take (i := 1) (v := undef) (by simp only [List.getElem?_toArray, List.getElem?_cons_succ, List.getElem?_cons_zero]; rfl) (by kernel_rfl) (by kernel_rfl) (by kernel_rfl) (by exact fun _ _ _ h => h) (Or.inr ⟨by rfl, rfl⟩) (by assumption) ?_) | (refine wpAnyH_take (i := 1) (v := ?_) (by simp only [List.getElem?_toArray, List.getElem?_cons_succ, List.getElem?_cons_zero]; rfl) (by kernel_rfl) (by kernel_rfl) (by kernel_rfl) (by exact fun _ _ _ h => h) (Or.inl ⟨by rfl, ?_⟩) (by assumption) ?_; rotate_left; · (intro w hSw; (try dsimp only at hSw); go_simp; (try with_reducible rfl)))
                          try simp only [Act.put, List.setIfInBounds_toArray, List.set_cons_zero, List.set_cons_succ]
                          first | (refine wpAnyH_take (i := 2) (v := undef) (by simp only [List.getElem?_toArray, List.getElem?_cons_succ, List.getElem?_cons_zero]; rfl) (by kernel_rfl) (by kernel_rfl) (by kernel_rfl) (by exact fun _ _ _ h => h) (Or.inr ⟨by rfl, rfl⟩) (by assumption) ?_) | (refine wpAnyH_take (i := 2) (v := ?_) (by simp only [List.getElem?_toArray, List.getElem?_cons_succ, List.getElem?_cons_zero]; rfl) (by kernel_rfl) (by kernel_rfl) (by kernel_rfl) (by exact fun _ _ _ h => h) (Or.inl ⟨by rfl, ?_⟩) (by assumption) ?_; rotate_left; · (intro w hSw; (try dsimp only at hSw); go_simp; (try with_reducible rfl)))
                          try simp only [Act.put, List.setIfInBounds_toArray, List.set_cons_zero, List.set_cons_succ]
                          first | (refine wpAnyH_take (i := 3) (v := undef) (by simp only [List.getElem?_toArray, List.getElem?_cons_succ, List.getElem?_cons_zero]; rfl) (by kernel_rfl) (by kernel_rfl) (by kernel_rfl) (by exact fun _ _ _ h => h) (Or.inr ⟨by rfl, rfl⟩) (by assumption) ?_) | (refine wpAnyH_take (i := 3) (v := ?_) (by simp only [List.getElem?_toArray, List.getElem?_cons_succ, List.getElem?_cons_zero]; rfl) (by kernel_rfl) (by kernel_rfl) (by kernel_rfl) (by exact fun _ _ _ h => h) (Or.inl ⟨by rfl, ?_⟩) (by assumption) ?_; rotate_left; · (intro w hSw; (try dsimp only at hSw); go_simp; (try with_reducible rfl)))
                          try simp only [Act.put, List.setIfInBounds_toArray, List.set_cons_zero, List.set_cons_succ]
                          first | (refine wpAnyH_take (i := 4) (v := undef) (by simp only [List.getElem?_toArray, List.getElem?_cons_succ, List.getElem?_cons_zero]; rfl) (by kernel_rfl) (by kernel_rfl) (by kernel_rfl) (by exact fun _ _ _ h => h) (Or.inr ⟨by rfl, rfl⟩) (by assumption) ?_) | (refine wpAnyH_take (i := 4) (v := ?_) (by simp only [List.getElem?_toArray, List.getElem?_cons_succ, List.getElem?_cons_zero]; rfl) (by kernel_rfl) (by kernel_rfl) (by kernel_rfl) (by exact fun _ _ _ h => h) (Or.inl ⟨by rfl, ?_⟩) (by assumption) ?_; rotate_left; · (intro w hSw; (try dsimp only at hSw); go_simp; (try with_reducible rfl)))
                          try simp only [Act.put, List.setIfInBounds_toArray, List.set_cons_zero, List.set_cons_succ]
                          first | (refine wpAnyH_take (i := 5) (v := undef) (by simp only [List.getElem?_toArray, List.getElem?_cons_succ, List.getElem?_cons_zero]; rfl) (by kernel_rfl) (by kernel_rfl) (by kernel_rfl) (by exact fun _ _ _ h => h) (Or.inr ⟨by rfl, rfl⟩) (by assumption) ?_) | (refine wpAnyH_take (i := 5) (v := ?_) (by simp only [List.getElem?_toArray, List.getElem?_cons_succ, List.getElem?_cons_zero]; rfl) (by kernel_rfl) (by kernel_rfl) (by kernel_rfl) (by exact fun _ _ _ h => h) (Or.inl ⟨by rfl, ?_⟩) (by assumption) ?_; rotate_left; · (intro w hSw; (try dsimp only at hSw); go_simp; (try with_reducible rfl)))
                          try simp only [Act.put, List.setIfInBounds_toArray, List.set_cons_zero, List.set_cons_succ]
                          first | (refine wpAnyH_take (i := 6) (v := undef) (by simp only [List.getElem?_toArray, List.getElem?_cons_succ, List.getElem?_cons_zero]; rfl) (by kernel_rfl) (by kernel_rfl) (by kernel_rfl) (by exact fun _ _ _ h => h) (Or.inr ⟨by rfl, rfl⟩) (by assumption) ?_) | (refine wpAnyH_take (i := 6) (v := ?_) (by simp only [List.getElem?_toArray, List.getElem?_cons_succ, List.getElem?_cons_zero]; rfl) (by kernel_rfl) (by kernel_rfl) (by kernel_rfl) (by exact fun _ _ _ h => h) (Or.inl ⟨by rfl, ?_⟩) (by assumption) ?_; rotate_left; · (intro w hSw; (try dsimp only at hSw); go_simp; (try with_reducible rfl)))
                          try simp only [Act.put, List.setIfInBounds_toArray, List.set_cons_zero, List.set_cons_succ]
                          first | (refine wpAnyH_take (i := 7) (v := undef) (by simp only [List.getElem?_toArray, List.getElem?_cons_succ, List.getElem?_cons_zero]; rfl) (by kernel_rfl) (by kernel_rfl) (by kernel_rfl) (by exact fun _ _ _ h => h) (Or.inr ⟨by rfl, rfl⟩) (by assumption) ?_) | (refine wpAnyH_take (i := 7) (v := ?_) (by simp only [List.getElem?_toArray, List.getElem?_cons_succ, List.getElem?_cons_zero]; rfl) (by kernel_rfl) (by kernel_rfl) (by kernel_rfl) (by exact fun _ _ _ h => h) (Or.inl ⟨by rfl, ?_⟩) (by assumption) ?_; rotate_left; · (intro w hSw; (try dsimp only at hSw); go_simp; (try with_reducible rfl)))
                          try simp only [Act.put, List.setIfInBounds_toArray, List.set_cons_zero, List.set_cons_succ]
                          first | (refine wpAnyH_take (i := 8) (v := undef) (by simp only [List.getElem?_toArray, List.getElem?_cons_succ, List.getElem?_cons_zero]; rfl) (by kernel_rfl) (by kernel_rfl) (by kernel_rfl) (by exact fun _ _ _ h => h) (Or.inr ⟨by rfl, rfl⟩) (by assumption) ?_) | (refine wpAnyH_take (i := 8) (v := ?_) (by simp only [List.getElem?_toArray, List.getElem?_cons_succ, List.getElem?_cons_zero]; rfl) (by kernel_rfl) (by kernel_rfl) (by kernel_rfl) (by exact fun _ _ _ h => h) (Or.inl ⟨by rfl, ?_⟩) (by assumption) ?_; rotate_left; · (intro w hSw; (try dsimp only at hSw); go_simp; (try with_reducible rfl)))
                          try simp only [Act.put, List.setIfInBounds_toArray, List.set_cons_zero, List.set_cons_succ]
                          refine wpAnyH_ready (rs := [9]) (by kernel_rfl) (by simp) ?_
                          refine AllReadyH.cons rfl (fun KK hK => ?_) AllReadyH.nil
                          go_simp
                          refine (HM.out _).mono ?_
                          rintro e x1 ⟨rfl, ff⟩
                          have FA := Lib.hid ((Fr.refl NoB wr).drew.then ff)
                          clear ff
                          go_wp2_with (fail)
                          refine hK.out _ _ (HS.out _ FA.out) (fun hHeldFA => ?_)
                          clear hK KK
                          try simp only [Act.put, List.setIfInBounds_toArray, List.set_cons_zero, List.set_cons_succ]
                          first | (refine wpAnyH_take (i := 10) (v := undef) (by simp only [List.getElem?_toArray, List.getElem?_cons_succ, List.getElem?_cons_zero]; rfl) (by kernel_rfl) (by kernel_rfl) (by kernel_rfl) (by exact fun _ _ _ h => h) (Or.inr ⟨by rfl, rfl⟩) (by assumption) ?_) | (refine wpAnyH_take (i := 10) (v := ?_) (by simp only [List.getElem?_toArray, List.getElem?_cons_succ, List.getElem?_cons_zero]; rfl) (by kernel_rfl) (by kernel_rfl) (by kernel_rfl) (by exact fun _ _ _ h => h) (Or.inl ⟨by rfl, ?_⟩) (by assumption) ?_; rotate_left; · (intro w hSw; (try dsimp only at hSw); go_simp; (try with_reducible rfl)))
                          try simp only [Act.put, List.setIfInBounds_toArray, List.set_cons_zero, List.set_cons_succ]
                          first | (refine wpAnyH_take (i := 11) (v := undef) (by simp only [List.getElem?_toArray, List.getElem?_cons_succ, List.getElem?_cons_zero]; rfl) (by kernel_rfl) (by kernel_rfl) (by kernel_rfl) (by exact fun _ _ _ h => h) (Or.inr ⟨by rfl, rfl⟩) (by assumption) ?_) | (refine wpAnyH_take (i := 11) (v := ?_) (by simp only [List.getElem?_toArray, List.getElem?_cons_succ, List.getElem?_cons_zero]; rfl) (by kernel_rfl) (by kernel_rfl) (by kernel_rfl) (by exact fun _ _ _ h => h) (Or.inl ⟨by rfl, ?_⟩) (by assumption) ?_; rotate_left; · (intro w hSw; (try dsimp only at hSw); go_simp; (try with_reducible rfl)))
                          try simp only [Act.put, List.setIfInBounds_toArray, List.set_cons_zero, List.set_cons_succ]
                          first | (refine wpAnyH_take (i := 12) (v := undef) (by simp only [List.getElem?_toArray, List.getElem?_cons_succ, List.getElem?_cons_zero]; rfl) (by kernel_rfl) (by kernel_rfl) (by kernel_rfl) (by exact fun _ _ _ h => h) (Or.inr ⟨by rfl, rfl⟩) (by assumption) ?_) | (refine wpAnyH_take (i := 12) (v := ?_) (by simp only [List.getElem?_toArray, List.getElem?_cons_succ, List.getElem?_cons_zero]; rfl) (by kernel_rfl) (by kernel_rfl) (by kernel_rfl) (by exact fun _ _ _ h => h) (Or.inl ⟨by rfl, ?_⟩) (by assumption) ?_; rotate_left; · (intro w hSw; (try dsimp only at hSw); go_simp; (try with_reducible rfl)))
                          try simp only [Act.put, List.setIfInBounds_toArray, List.set_cons_zero, List.set_cons_succ]
                          first | (refine wpAnyH_take (i := 13) (v := undef) (by simp only [List.getElem?_toArray, List.getElem?_cons_succ, List.getElem?_cons_zero]; rfl) (by kernel_rfl) (by kernel_rfl) (by kernel_rfl) (by exact fun _ _ _ h => h) (Or.inr ⟨by rfl, rfl⟩) (by assumption) ?_) | (refine wpAnyH_take (i := 13) (v := ?_) (by simp only [List.getElem?_toArray, List.getElem?_cons_succ, List.getElem?_cons_zero]; rfl) (by kernel_rfl) (by kernel_rfl) (by kernel_rfl) (by exact fun _ _ _ h => h) (Or.inl ⟨by rfl, ?_⟩) (by assumption) ?_; rotate_left; · (intro w hSw; (try dsimp only at hSw); go_simp; (try with_reducible rfl)))
                          try simp only [Act.put, List.setIfInBounds_toArray, List.set_cons_zero, List.set_cons_succ]
                          first | (refine wpAnyH_take (i := 14) (v := undef) (by simp only [List.getElem?_toArray, List.getElem?_cons_succ, List.getElem?_cons_zero]; rfl) (by kernel_rfl) (by kernel_rfl) (by kernel_rfl) (by exact fun _ _ _ h => h) (Or.inr ⟨by rfl, rfl⟩) (by assumption) ?_) | (refine wpAnyH_take (i := 14) (v := ?_) (by simp only [List.getElem?_toArray, List.getElem?_cons_succ, List.getElem?_cons_zero]; rfl) (by kernel_rfl) (by kernel_rfl) (by kernel_rfl) (by exact fun _ _ _ h => h) (Or.inl ⟨by rfl, ?_⟩) (by assumption) ?_; rotate_left; · (intro w hSw; (try dsimp only at hSw); go_simp; (try with_reducible rfl)))
                          try simp only [Act.put, List.setIfInBounds_toArray, List.set_cons_zero, List.set_cons_succ]
                          first | (refine wpAnyH_take (i := 15) (v := undef) (by simp only [List.getElem?_toArray, List.getElem?_cons_succ, List.getElem?_cons_zero]; rfl) (by kernel_rfl) (by kernel_rfl) (by kernel_rfl) (by exact fun _ _ _ h => h) (Or.inr ⟨by rfl, rfl⟩) (by assumption) ?_) | (refine wpAnyH_take (i := 15) (v := ?_) (by simp only [List.getElem?_toArray, List.getElem?_cons_succ, List.getElem?_cons_zero]; rfl) (by kernel_rfl) (by kernel_rfl) (by kernel_rfl) (by exact fun _ _ _ h => h) (Or.inl ⟨by rfl, ?_⟩) (by assumption) ?_; rotate_left; · (intro w hSw; (try dsimp only at hSw); go_simp; (try with_reducible rfl)))
                          try simp only [Act.put, List.setIfInBounds_toArray, List.set_cons_zero, List.set_cons_succ]
                          first | (refine wpAnyH_take (i := 16) (v := undef) (by simp only [List.getElem?_toArray, List.getElem?_cons_succ, List.getElem?_cons_zero]; rfl) (by kernel_rfl) (by kernel_rfl) (by kernel_rfl) (by exact fun _ _ _ h => h) (Or.inr ⟨by rfl, rfl⟩) (by assumption) ?_) | (refine wpAnyH_take (i := 16) (v := ?_) (by simp only [List.getElem?_toArray, List.getElem?_cons_succ, List.getElem?_cons_zero]; rfl) (by kernel_rfl) (by kernel_rfl) (by kernel_rfl) (by exact fun _ _ _ h => h) (Or.inl ⟨by rfl, ?_⟩) (by assumption) ?_; rotate_left; · (intro w hSw; (try dsimp only at hSw); go_simp; (try with_reducible rfl)))
                          try simp only [Act.put, List.setIfInBounds_toArray, List.set_cons_zero, List.set_cons_succ]
                          first | (refine wpAnyH_take (i := 17) (v := undef) (by simp only [List.getElem?_toArray, List.getElem?_cons_succ, List.getElem?_cons_zero]; rfl) (by kernel_rfl) (by kernel_rfl) (by kernel_rfl) (by exact fun _ _ _ h => h) (Or.inr ⟨by rfl, rfl⟩) (by assumption) ?_) | (refine wpAnyH_take (i := 17) (v := ?_) (by simp only [List.getElem?_toArray, List.getElem?_cons_succ, List.getElem?_cons_zero]; rfl) (by kernel_rfl) (by kernel_rfl) (by kernel_rfl) (by exact fun _ _ _ h => h) (Or.inl ⟨by rfl, ?_⟩) (by assumption) ?_; rotate_left; · (intro w hSw; (try dsimp only at hSw); go_simp; (try with_reducible rfl)))
                          try simp only [Act.put, List.setIfInBounds_toArray, List.set_cons_zero, List.set_cons_succ]
                          first | (refine wpAnyH_take (i := 18) (v := undef) (by simp only [List.getElem?_toArray, List.getElem?_cons_succ, List.getElem?_cons_zero]; rfl) (by kernel_rfl) (by kernel_rfl) (by kernel_rfl) (by exact fun _ _ _ h => h) (Or.inr ⟨by rfl, rfl⟩) (by assumption) ?_) | (refine wpAnyH_take (i := 18) (v := ?_) (by simp only [List.getElem?_toArray, List.getElem?_cons_succ, List.getElem?_cons_zero]; rfl) (by kernel_rfl) (by kernel_rfl) (by kernel_rfl) (by exact fun _ _ _ h => h) (Or.inl ⟨by rfl, ?_⟩) (by assumption) ?_; rotate_left; · (intro w hSw; (try dsimp only at hSw); go_simp; (try with_reducible rfl)))
                          try simp only [Act.put, List.setIfInBounds_toArray, List.set_cons_zero, List.set_cons_succ]
                          first | (refine wpAnyH_take (i := 19) (v := undef) (by simp only [List.getElem?_toArray, List.getElem?_cons_succ, List.getElem?_cons_zero]; rfl) (by kernel_rfl) (by kernel_rfl) (by kernel_rfl) (by exact fun _ _ _ h => h) (Or.inr ⟨by rfl, rfl⟩) (by assumption) ?_) | (refine wpAnyH_take (i := 19) (v := ?_) (by simp only [List.getElem?_toArray, List.getElem?_cons_succ, List.getElem?_cons_zero]; rfl) (by kernel_rfl) (by kernel_rfl) (by kernel_rfl) (by exact fun _ _ _ h => h) (Or.inl ⟨by rfl, ?_⟩) (by assumption) ?_; rotate_left; · (intro w hSw; (try dsimp only at hSw); go_simp; (try with_reducible rfl)))
                          try simp only [Act.put, List.setIfInBounds_toArray, List.set_cons_zero, List.set_cons_succ]
                          first | (refine wpAnyH_take (i := 20) (v := undef) (by simp only [List.getElem?_toArray, List.getElem?_cons_succ, List.getElem?_cons_zero]; rfl) (by kernel_rfl) (by kernel_rfl) (by kernel_rfl) (by exact fun _ _ _ h => h) (Or.inr ⟨by rfl, rfl⟩) (by assumption) ?_) | (refine wpAnyH_take (i := 20) (v := ?_) (by simp only [List.getElem?_toArray, List.getElem?_cons_succ, List.getElem?_cons_zero]; rfl) (by kernel_rfl) (by kernel_rfl) (by kernel_rfl) (by exact fun _ _ _ h => h) (Or.inl ⟨by rfl, ?_⟩) (by assumption) ?_; rotate_left; · (intro w hSw; (try dsimp only at hSw); go_simp; (try with_reducible rfl)))
                          try simp only [Act.put, List.setIfInBounds_toArray, List.set_cons_zero, List.set_cons_succ]
                          first | (refine wpAnyH_take (i := 21) (v := undef) (by simp only [List.getElem?_toArray, List.getElem?_cons_succ, List.getElem?_cons_zero]; rfl) (by kernel_rfl) (by kernel_rfl) (by kernel_rfl) (by exact fun _ _ _ h => h) (Or.inr ⟨by rfl, rfl⟩) (by assumption) ?_) | (refine wpAnyH_take (i := 21) (v := ?_) (by simp only [List.getElem?_toArray, List.getElem?_cons_succ, List.getElem?_cons_zero]; rfl) (by kernel_rfl) (by kernel_rfl) (by kernel_rfl) (by exact fun _ _ _ h => h) (Or.inl ⟨by rfl, ?_⟩) (by assumption) ?_; rotate_left; · (intro w hSw; (try dsimp only at hSw); go_simp; (try with_reducible rfl)))
                          try simp only [Act.put, List.setIfInBounds_toArray, List.set_cons_zero, List.set_cons_succ]
                          refine wpAnyH_ready (rs := [22]) (by kernel_rfl) (by simp) ?_
                          refine AllReadyH.cons rfl (fun KK hK => ?_) AllReadyH.nil
                          go_simp
                          refine (HM.out _).mono ?_
                          rintro e x2 ⟨rfl, ff⟩
                          have FB := Lib.hid (FA.out.then ff)
                          clear ff
                          go_wp2_with (fail)
                          refine hK.out _ _ (HS.out _ FB.out) (fun hHeldFB => ?_)
                          clear hK KK
                          try simp only [Act.put, List.setIfInBounds_toArray, List.set_cons_zero, List.set_cons_succ]
                          first | (refine wpAnyH_take (i := 23) (v := undef) (by simp only [List.getElem?_toArray, List.getElem?_cons_succ, List.getElem?_cons_zero]; rfl) (by kernel_rfl) (by kernel_rfl) (by kernel_rfl) (by exact fun _ _ _ h => h) (Or.inr ⟨by rfl, rfl⟩) (by assumption) ?_) | (refine wpAnyH_take (i := 23) (v := ?_) (by simp only [List.getElem?_toArray, List.getElem?_cons_succ, List.getElem?_cons_zero]; rfl) (by kernel_rfl) (by kernel_rfl) (by kernel_rfl) (by exact fun _ _ _ h => h) (Or.inl ⟨by rfl, ?_⟩) (by assumption) ?_; rotate_left; · (intro w hSw; (try dsimp only at hSw); go_simp; (try with_reducible rfl)))
                          try simp only [Act.put, List.setIfInBounds_toArray, List.set_cons_zero, List.set_cons_succ]
                          first | (refine wpAnyH_take (i := 24) (v := undef) (by simp only [List.getElem?_toArray, List.getElem?_cons_succ, List.getElem?_cons_zero]; rfl) (by kernel_rfl) (by kernel_rfl) (by kernel_rfl) (by exact fun _ _ _ h => h) (Or.inr ⟨by rfl, rfl⟩) (by assumption) ?_) | (refine wpAnyH_take (i := 24) (v := ?_) (by simp only [List.getElem?_toArray, List.getElem?_cons_succ, List.getElem?_cons_zero]; rfl) (by kernel_rfl) (by kernel_rfl) (by kernel_rfl) (by exact fun _ _ _ h => h) (Or.inl ⟨by rfl, ?_⟩) (by assumption) ?_; rotate_left; · (intro w hSw; (try dsimp only at hSw); go_simp; (try with_reducible rfl)))
                          try simp only [Act.put, List.setIfInBounds_toArray, List.set_cons_zero, List.set_cons_succ]
                          first | (refine wpAnyH_take (i := 25) (v := undef) (by simp only [List.getElem?_toArray, List.getElem?_cons_succ, List.getElem?_cons_zero]; rfl) (by kernel_rfl) (by kernel_rfl) (by kernel_rfl) (by exact fun _ _ _ h => h) (Or.inr ⟨by rfl, rfl⟩) (by assumption) ?_) | (refine wpAnyH_take (i := 25) (v := ?_) (by simp only [List.getElem?_toArray, List.getElem?_cons_succ, List.getElem?_cons_zero]; rfl) (by kernel_rfl) (by kernel_rfl) (by kernel_rfl) (by exact fun _ _ _ h => h) (Or.inl ⟨by rfl, ?_⟩) (by assumption) ?_; rotate_left; · (intro w hSw; (try dsimp only at hSw); go_simp; (try with_reducible rfl)))
                          try simp only [Act.put, List.setIfInBounds_toArray, List.set_cons_zero, List.set_cons_succ]
                          refine wpAnyH_done (by kernel_rfl) ?_ _
                          have G2 := Lib.hid (GI.out.fr FB.out)
                          have F2 := Lib.hid (FI.out.then FB.out.no)
                          clear hHeld hHeldFA hHeldFB hgs hls
                          go_wp2
                          go_roundw
                          case rel => exact ⟨rfl, i + 1, by omega, by go_num, G2.out, F2.out⟩
                          case measure => simp [intOf]; omega
                        · obtain rfl : i = n := by omega
                          clear hli hgs
                          go_wp2
                          go_roundw
                          case rel => exact ⟨rfl, t + 1, by omega, by go_num, GI.out, FI.out⟩
                          case measure => simp [intOf]; omega
                    · obtain rfl : t = q := by omega
                      clear hlt htq
                      go_wp2
                      go_ret
                      exact ⟨rfl, HME.out _ FP.out, GP.out.lay.own⟩

end Go.Proofs.Ytmgkenbfjlahpaa

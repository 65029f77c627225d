/-
  Pts: the document's answer: Join.
-/
import Derived.Test.YtbfcggcfabkbjaaDoorPtr
namespace Go.Proofs.YtbfcggcfabkbjaaDoor
open Go.RowKit Go.Shelf

theorem info_parts {P : Program} {t : TypeId} {z : Value} {s b : Nat} (h : (P.info? t).map (fun i => (i.zero, i.size, i.bytes)) = some (some z, s, b)) : ∃ i, P.info? t = some i ∧ i.zero = some z ∧ i.size = s ∧ i.bytes = b := by
  cases hi : P.info? t with
  | none => rw [hi] at h; cases h
  | some i => rw [hi] at h; simp at h; exact ⟨i, rfl, h.1, h.2.1, h.2.2⟩
theorem info_str : (Tryd.prog.info? 9).map (fun i => (i.zero, i.size, i.bytes)) = some (some (.string ⟨#[]⟩), 1, 16) := by kernel_rfl
theorem Fr.upE {M : Nat → Prop} {w w1 w2 : World} (h : Fr NoB w w1) (h2 : Fr M w1 w2) (hm : ∀ k, M k → w.heap.size ≤ k) : Fr NoB w w2 :=
  h.trans h2 (fun k hk x => by have := hm k x; omega)
/-- Texts as values. -/
def sv (xs : List (List UInt8)) : List Value := xs.map fun x => .string ⟨x.toArray⟩
@[simp] theorem sv_length (xs : List (List UInt8)) : (sv xs).length = xs.length := by simp [sv]
theorem sv_one (xs : List (List UInt8)) : ∀ v ∈ sv xs, v.oneCell' = true := by
  intro v hv
  obtain ⟨x, _, rfl⟩ := List.mem_map.1 hv
  rfl
theorem sv_app (a b : List (List UInt8)) : sv (a ++ b) = sv a ++ sv b := by simp [sv]
/-- A row of one's own of texts, read. -/
theorem own_row {w : World} {base e N : Nat} {v : Value} {xs : List (List UInt8)} (h : w.ownsRow base e 1 v N (sv xs)) (hx : xs ≠ []) : ∃ b c, v = .slice (some ⟨b, 0, none⟩) xs.length c ∧ xs.length ≤ c ∧ b < w.heap.size ∧ StrRow w b xs := by
  have hN : N = xs.length := by have := h.1; simpa using this.symm
  subst hN
  obtain ⟨g, cap, rfl⟩ := Joins.ownsRow_form h (List.length_pos_iff.2 hx)
  rcases h.2 with ⟨h0, _⟩ | ⟨g', cap', cur, hv, _, hh, h1, h2, h3, h4⟩
  · cases h0
  · cases hv
    refine ⟨_, _, rfl, h1, Lib.lt_of_heap hh, fun j x hj => ?_⟩
    have := h.cells (g := g) rfl j (.string ⟨x.toArray⟩) (by simp [sv, hj])
    rwa [Lib.addr_add, Nat.zero_add] at this

/-- A path's parts. -/
def pts (l : List UInt8) : List (List UInt8) := if l = [47] then [] else spl (l.drop 1)
theorem pts_join {p n : List UInt8} (hp : chk p = true) : 47 :: Lib.join (pts p ++ [n]) [47] = Lib.trimSuffix p [47] ++ 47 :: n := by
  unfold pts
  by_cases h : p = [47]
  · subst h
    rw [if_pos rfl, List.nil_append, Lib.join_one]
    rfl
  · rw [if_neg h, trim_path hp h]
    obtain ⟨t, rfl, _, _⟩ := chk_iff.1 hp
    simp only [List.drop_one, List.tail_cons]
    have := join_spl t
    cases hs : spl t with
    | nil => exact absurd hs (spl_ne t)
    | cons x xs =>
      rw [hs, Lib.join_cons] at this
      rw [List.cons_append, Lib.join_cons, ← this]
      simp [Lib.joinTail]
theorem chk_join {p n : List UInt8} (hp : chk p = true) (hn : partOk n = true) : chk (Lib.trimSuffix p [47] ++ 47 :: n) = decide ((Lib.trimSuffix p [47] ++ 47 :: n).length ≤ 200) := by
  by_cases h : (Lib.trimSuffix p [47] ++ 47 :: n).length ≤ 200
  · rw [decide_eq_true h]
    have hj : joi p n = Lib.trimSuffix p [47] ++ 47 :: n := by unfold joi; rw [if_pos ⟨hp, hn, h⟩]
    have := (joined (p := p) (n := n) (by rw [hj]; simp)).2.2.1
    rwa [hj] at this
  · rw [decide_eq_false h, Bool.eq_false_iff]
    exact fun hx => h (chk_slash hx).2
theorem pts_len {p : List UInt8} (hp : chk p = true) : (pts p).length ≤ 200 ∧ (Lib.trimSuffix p [47]).length ≤ 200 := by
  have hl := (chk_slash hp).2
  constructor
  · unfold pts
    split
    · simp
    · have := spl_count (p.drop 1)
      rw [List.length_drop] at this
      have := chk_ne hp
      have : 0 < p.length := List.length_pos_iff.2 this
      omega
  · unfold Lib.trimSuffix
    split
    · simp; omega
    · exact hl

set_option maxRecDepth 8000 in
set_option maxHeartbeats 3200000 in
theorem refjoin_yes (p n : List UInt8) (w : World) (hM : Max w) (hl : p.length ≤ 140737488300000) (hl2 : n.length ≤ 140737488200000) (hp : chk p = true) (hn : partOk n = true) (R : ByteArray) (hR : ⟨(joi p n).toArray⟩ = R) :
    Calls Tryd.prog 16 #[.string ⟨p.toArray⟩, .string ⟨n.toArray⟩] w fun e w' => e = .returned (.string R) ∧ Fr NoB w w' := by
  have hP : Calls Tryd.prog 22 #[.string ⟨p.toArray⟩] w fun e w' => ∃ A, e = .returned (.tuple #[.slice A (pts p).length (pts p).length, .bool true]) ∧ (∀ W, Fr NoB w' W → 0 < (pts p).length → ∃ ad, A = some ad ∧ ∀ (j : Nat) (u : Value), (sv (pts p))[j]? = some u → W.cell? (ad.add j) = some u) ∧ Fr NoB w w' := by
    refine (refparts_calls p w hM (by omega)).mono fun e w' h => ?_
    rcases h.1 with ⟨k1, _⟩ | ⟨k1, k2⟩ | ⟨k1, k2, b, e1, e2, e3, e4⟩
    · rw [hp] at k1; cases k1
    · have : pts p = [] := by unfold pts; rw [if_pos k1]
      rw [this]
      exact ⟨none, k2, fun _ _ h => absurd h (by simp), h.2⟩
    · have : pts p = spl (p.drop 1) := by unfold pts; rw [if_neg k2]
      rw [this]
      refine ⟨_, e1, fun W fW _ => ⟨_, rfl, fun j u hj => ?_⟩, h.2⟩
      rw [Lib.addr_add, Nat.zero_add]
      unfold sv at hj
      rw [List.getElem?_map, Option.map_eq_some_iff] at hj
      obtain ⟨x, hx, rfl⟩ := hj
      exact (fW.cell (p := ⟨b, j, none⟩) e3 id).trans (e4 j x hx)
  have hN := fun W => refpart_calls n W (by omega)
  rw [hn] at hN
  obtain ⟨q1, q2⟩ := pts_len hp
  have hX : ∀ b c W, StrRow W b (pts p ++ [n]) → b < W.heap.size → ((pts p).length + 1) ≤ c → Calls Tryd.prog 24 #[.slice (some ⟨b, 0, none⟩) ((pts p).length + 1) c] W fun e w' => e = .returned (.string ⟨(Lib.trimSuffix p [47] ++ 47 :: n).toArray⟩) ∧ Fr NoB W w' := fun b c W h1 h2 h3 => by
    have hj := pts_join (n := n) hp
    have hlj := congrArg List.length hj
    have := refpath_calls b c (pts p ++ [n]) W h1 h2 (by simpa using h3) (by simp at hlj; omega) (by simp; omega)
    rw [hj] at this
    simpa using this
  have hC := fun W h => refcheck_calls (Lib.trimSuffix p [47] ++ 47 :: n) W h (by simp; omega)
  rw [chk_join hp hn] at hC
  unfold joi at hR
  simp only [hp, hn, true_and] at hR
  have HR1 : (Lib.trimSuffix p [47] ++ 47 :: n).length ≤ 200 → R = ⟨(Lib.trimSuffix p [47] ++ 47 :: n).toArray⟩ := fun h => by rw [← hR, if_pos h]
  have HR2 : ¬ (Lib.trimSuffix p [47] ++ 47 :: n).length ≤ 200 → R = ⟨#[]⟩ := fun h => by rw [← hR, if_neg h]
  clear hR
  generalize hJ : (ByteArray.mk (Lib.trimSuffix p [47] ++ 47 :: n).toArray) = J at *
  generalize hxs : pts p = xs at *
  generalize hS : ByteArray.mk p.toArray = S at *
  obtain ⟨i0, hi0, hz0, hz1, hz2⟩ := info_parts info_str
  go_enter Tryd.func16, Tryd.ntmps16
  go_wp2_with ((with_reducible refine hP.mono ?_); rintro e w1 ⟨A, rfl, hA, f1⟩)
  refine (hN _).mono ?_
  rintro e w2 ⟨rfl, f2⟩
  have F2 := Lib.hid (f1.then f2)
  have HA := Lib.hid (hA _ (f2.alloc (.cells #[] 9)))
  have HX := Lib.hid hX
  have HC := Lib.hid hC
  clear hA f1 f2 hP hN hX hC
  go_wp2_with (at_builtin; go_loud (refine wpList_append_src _ rfl _ _ 32 rfl w2.heap.size 9 i0 (.string ⟨#[]⟩) 1 16 Tryd.underlying32 hi0 hz0 hz1 hz2 rfl (by decide) _ 0 [] rfl (World.ownsRow_lit w2 #[] 0 (Nat.le_refl _) (by decide) rfl) A xs.length xs.length (sv xs) rfl (by simp) HA.out (sv_one xs) (by unfold maxLen; omega) (by omega) (by simp) ?_))
  intro v2 w3 hA1
  have o2 : w3.ownsRow w2.heap.size 9 1 v2 xs.length (sv xs) := by have h := hA1.own; first | exact h | simpa using h
  have HO2 := Lib.hid o2
  have F3 := Lib.hid ((F2.out.alloc (.cells #[] 9)).upE hA1.fr fun k hk => by cases hk; exact F2.out.size)
  have HS3 := Lib.hid (Nat.le_trans (show w2.heap.size ≤ (w2.alloc (.cells #[] 9)).heap.size by simp) hA1.fr.size)
  have hsrc : ∀ (t : TypeId) (j : Nat) (u : Value), (sv [n])[j]? = some u → (w3.alloc (.cells #[.string ⟨n.toArray⟩] t)).cell? ((⟨w3.heap.size, 0, none⟩ : Addr).add j) = some u := fun t j u hj => by
    rw [Lib.addr_add, Lib.cell_of_heap (heap_alloc_new w3 _)]
    simpa [sv] using hj
  have HSRC := Lib.hid hsrc
  clear hA1 o2 HA hsrc
  go_wp2_with (at_builtin; go_loud (refine wpList_append_src _ rfl _ _ 32 rfl w2.heap.size 9 i0 (.string ⟨#[]⟩) 1 16 Tryd.underlying32 hi0 hz0 hz1 hz2 rfl (by decide) v2 xs.length (sv xs) rfl (HO2.out.alloc _) _ 1 _ (sv [n]) rfl rfl (fun _ => ⟨_, rfl, HSRC.out _⟩) (sv_one _) (by unfold maxLen; omega) (by omega) (by have := HS3.out; simp; omega) ?_))
  intro v4 w4 hA2
  have o4 := hA2.own
  rw [← sv_app] at o4
  obtain ⟨b4, c4, rfl, hc4, hb4, hr4⟩ := own_row o4 (by simp)
  have f4 := ((F3.out.alloc (.cells #[.string ⟨n.toArray⟩] 9))).upE hA2.fr fun k hk => Nat.le_trans F2.out.size (HO2.out.lt k hk).1
  have hcall := HX.out b4 c4 w4 hr4 hb4 (by simpa using hc4)
  rw [show (xs ++ [n]).length = xs.length + 1 by simp]
  clear hA2 o4 HO2 HS3 HSRC HX
  have hC := HC.out
  clear HC
  by_cases hlen : (Lib.trimSuffix p [47] ++ 47 :: n).length ≤ 200
  · rw [decide_eq_true hlen] at hC
    have hRJ := HR1 hlen
    subst hRJ
    clear HR1 HR2
    go_wp2_with (first | ((with_reducible refine hcall.mono ?_); rintro e w5 ⟨rfl, f5⟩) | ((with_reducible refine (hC _ (hM.fr (f4.then f5))).mono ?_); rintro e w6 ⟨rfl, f6⟩))
    go_ret
    exact ⟨rfl, (f4.then f5).then f6⟩
  · rw [decide_eq_false hlen] at hC
    have hRJ := HR2 hlen
    subst hRJ
    clear HR1 HR2
    go_wp2_with (first | ((with_reducible refine hcall.mono ?_); rintro e w5 ⟨rfl, f5⟩) | ((with_reducible refine (hC _ (hM.fr (f4.then f5))).mono ?_); rintro e w6 ⟨rfl, f6⟩))
    go_ret
    exact ⟨rfl, (f4.then f5).then f6⟩

set_option maxRecDepth 8000 in
set_option maxHeartbeats 3200000 in
theorem refjoin_calls (p n : List UInt8) (w : World) (hM : Max w) (hl : p.length ≤ 140737488300000) (hl2 : n.length ≤ 140737488200000) :
    Calls Tryd.prog 16 #[.string ⟨p.toArray⟩, .string ⟨n.toArray⟩] w fun e w' => e = .returned (.string ⟨(joi p n).toArray⟩) ∧ Fr NoB w w' := by
  by_cases hp : chk p = true
  · by_cases hn : partOk n = true
    · exact refjoin_yes p n w hM hl hl2 hp hn _ rfl
    · have hj : joi p n = [] := by unfold joi; rw [if_neg (fun h => hn h.2.1)]
      rw [hj]
      rw [Bool.not_eq_true] at hn
      have hN := fun W => refpart_calls n W (by omega)
      rw [hn] at hN
      have hP : Calls Tryd.prog 22 #[.string ⟨p.toArray⟩] w fun e w' => ∃ v, e = .returned (.tuple #[v, .bool true]) ∧ Fr NoB w w' := by
        refine (refparts_calls p w hM (by omega)).mono fun e w' h => ?_
        rcases h.1 with ⟨k1, _⟩ | ⟨k1, k2⟩ | ⟨k1, k2, b, e1, e2, e3, e4⟩
        · rw [hp] at k1; cases k1
        · exact ⟨_, k2, h.2⟩
        · exact ⟨_, e1, h.2⟩
      go_enter Tryd.func16, Tryd.ntmps16
      go_wp2_with (first | ((with_reducible refine hP.mono ?_); rintro e w1 ⟨A, rfl, f1⟩) | ((with_reducible refine (hN _).mono ?_); rintro e w2 ⟨rfl, f2⟩))
      go_ret
      exact ⟨rfl, f1.then f2⟩
  · have hj : joi p n = [] := by unfold joi; rw [if_neg (fun h => hp h.1)]
    rw [hj]
    rw [Bool.not_eq_true] at hp
    have hP : Calls Tryd.prog 22 #[.string ⟨p.toArray⟩] w fun e w' => ∃ v, e = .returned (.tuple #[v, .bool false]) ∧ Fr NoB w w' := by
      refine (refparts_calls p w hM (by omega)).mono fun e w' h => ?_
      rcases h.1 with ⟨k1, k2⟩ | ⟨k1, k2⟩ | ⟨k1, k2, b, e1, e2, e3, e4⟩
      · exact ⟨_, k2, h.2⟩
      · rw [k1, chk_root] at hp; cases hp
      · rw [hp] at k1; cases k1
    go_enter Tryd.func16, Tryd.ntmps16
    go_wp2_with ((with_reducible refine hP.mono ?_); rintro e w1 ⟨A, rfl, f1⟩)
    go_ret
    exact ⟨rfl, f1⟩
end Go.Proofs.YtbfcggcfabkbjaaDoor

/-
  Nsb: the statement's peeked.
-/
import Derived.Test.YtmgkenbfjlahpaaNsa
namespace Go.Proofs.Ytmgkenbfjlahpaa
open Go.RowKit Go.WideMaps Go.Sort

theorem seqT {α : Type} (g : List α) (n k : Nat) : (g.take n ++ g.drop (n + k))[n]? = g[n + k]? := by
  by_cases h : n ≤ g.length
  · rw [List.getElem?_append_right (by rw [List.length_take]; omega), List.length_take, Nat.min_eq_left h, Nat.sub_self, List.getElem?_drop, Nat.add_zero]
  · rw [List.getElem?_eq_none (by rw [List.length_append, List.length_take, List.length_drop]; omega), List.getElem?_eq_none (by omega)]
theorem seqE {α : Type} (g : List α) (n k : Nat) : (g.take n ++ g.drop (n + k)).eraseIdx n = g.take n ++ g.drop (n + k + 1) := by
  by_cases h : n ≤ g.length
  · rw [List.eraseIdx_append_of_length_le (by rw [List.length_take]; omega), List.length_take, Nat.min_eq_left h, Nat.sub_self, List.eraseIdx_zero, List.tail_drop]
  · rw [List.eraseIdx_of_length_le (by rw [List.length_append, List.length_take, List.length_drop]; omega), List.drop_of_length_le (by omega), List.drop_of_length_le (by omega)]
theorem takeS {α : Type} {g : List α} {n k : Nat} {x : α} (h : g[n + k]? = some x) : (g.drop n).take (k + 1) = (g.drop n).take k ++ [x] := by
  rw [List.take_add_one, List.getElem?_drop, h]; rfl
theorem takeN {α : Type} {g : List α} {n k : Nat} (h : g.length ≤ n + k) : (g.drop n).take k = g.drop n := List.take_of_length_le (by rw [List.length_drop]; omega)

/-- Two rows with the same bags. -/
def SameBags (L' L : List (Lk × List UInt8)) : Prop := ∀ q, bag L' q = bag L q
/-- The packets from place n on are out, and lie in rest. -/
structure PK (w W W' : World) (X Y : Nat → Prop) (p B : Nat) (L : List (Lk × List UInt8)) (q : Lk) (n k : Nat) (v : Value) (Rs : List Pk) (L' : List (Lk × List UInt8)) : Prop where
  base : w.heap.size ≤ W.heap.size
  len : Rs.length = k
  net : BN w W' Y p (B + k) L'
  rest : OR W' Y v Rs
  wide : ∀ g, X g → Y g
  low : ∀ g, Y g → X g ∨ w.heap.size ≤ g
  new : ∀ g, v.ownBlock = some g → W.heap.size ≤ g
  got : Rs.map Pk.l = ((bag L q).drop n).take k
  same : bag L' q = (bag L q).take n ++ (bag L q).drop (n + k)
  other : ∀ q', q' ≠ q → bag L' q' = bag L q'
  fr : Fr (fun g => ¬ X g) W W'
theorem PK.more {w W W' W2 W4 : World} {X Y : Nat → Prop} {p B : Nat} {L : List (Lk × List UInt8)} {q : Lk} {n k : Nat} {v v' : Value} {Rs : List Pk} {L' : List (Lk × List UInt8)} (h : PK w W W' X Y p B L q n k v Rs L') {x : Pk} (hx : (bag L q)[n + k]? = some x.l) (hl : x.l.length ≤ 1048576)
    (k1 : W2.ownsRow w.heap.size 5 1 x.val x.l.length (bv x.l)) (k2 : BN w W2 (fun g => Y g ∨ x.val.ownBlock = some g) p (B + k + 1) (dropL L' q n)) (k3 : Fr (fun g => ¬ Y g) W' W2) {o : Obj} (a : App 0 22 1 v (Rs.length + 1) (Rs.map Pk.val ++ [x.val]) (W2.alloc o) v' W4) :
    ∃ Y', PK w W W4 X Y' p B L q n (k + 1) v' (Rs ++ [x]) (dropL L' q n) := by
  have hk1 : W2.ownsRow 0 5 1 x.val x.l.length (bv x.l) := nown_base k1 (Nat.zero_le _)
  have hr2 : OR (W2.alloc o) (fun g => Y g ∨ x.val.ownBlock = some g) v Rs := ((h.rest.fr k3 (fun g hg hx => hx hg)).mono (fun g hg => .inl hg)).fr ((Fr.refl NoB W2).alloc o) (fun _ _ x => x)
  have hx2 : (W2.alloc o).ownsRow 0 5 1 x.val x.l.length (bv x.l) := own_step hk1 ((Fr.refl NoB W2).alloc o)
  have hp := hr2.push hx2 (fun g hg => .inr hg) hl a
  have hW := h.base
  refine ⟨_, ⟨hW, by rw [List.length_append, h.len]; rfl, ?_, hp, fun g hg => .inl (.inl (h.wide g hg)), fun g hg => ?_, fun g hg => ?_, by rw [List.map_append, h.got]; exact (takeS hx).symm, by rw [bag_drop_same, h.same, seqE]; rfl, fun q' hq => by rw [bag_drop_other hq]; exact h.other q' hq, ?_⟩⟩
  · refine (k2.step ((Fr.refl NoB W2).alloc o)).join a.fr (fun g hg => ⟨.inl (h.rest.ov g hg), Nat.le_trans hW (h.new g hg)⟩) (fun g hg => ?_)
    rcases hg with hg | hg
    · exact .inl hg
    · rcases a.at_ with e | e
      · rw [e] at hg; exact .inl (.inl (h.rest.ov g hg))
      · rw [e] at hg
        cases hg
        exact .inr ⟨Nat.le_refl _, (a.own.lt _ e).2⟩
  · rcases hg with (hg | hg) | hg
    · exact h.low g hg
    · exact .inr (k1.lt g hg).1
    · rcases a.at_ with e | e
      · rw [e] at hg; exact h.low g (h.rest.ov g hg)
      · rw [e] at hg
        cases hg
        exact .inr (Nat.le_trans h.net.fr.size (Nat.le_trans k3.size (by simp)))
  · rcases a.at_ with e | e
    · rw [e] at hg; exact h.new g hg
    · rw [e] at hg
      cases hg
      exact Nat.le_trans h.fr.size (Nat.le_trans k3.size (by simp))
  · exact ((h.fr.then (k3.mono fun g _ hg hx => hg (h.wide g hx))).alloc o).trans a.fr (fun g hg hx => by have := h.new g hx; omega)

set_option maxRecDepth 8000 in
set_option maxHeartbeats 3200000 in
theorem peeked_calls {w W : World} {X : Nat → Prop} {p B : Nat} {L : List (Lk × List UInt8)} (h : BN w W X p B L) (hwW : w.heap.size ≤ W.heap.size) (hB : B ≤ 1000000) {a b : Int} (hk : InR (a, b)) (z : Int) (h32 : (bag L (a, b)).length ≤ 32) (hlen : ∀ l ∈ bag L (a, b), l.length ≤ 1048576) :
    Calls Try.prog 31 #[.pointer (some ⟨p, 0, none⟩), .int .i64 a, .int .i64 b, .int .i64 z] W fun e w' => ∃ A c, e = .returned (.tuple #[.slice A (tkB L (a, b) z).length c, .bool (meant L (a, b) z).isSome]) ∧ w'.ownsRow 0 5 1 (.slice A (tkB L (a, b) z).length c) (tkB L (a, b) z).length (bv (tkB L (a, b) z)) ∧ (∀ g, (Value.slice A (tkB L (a, b) z).length c).ownBlock = some g → X g ∨ w.heap.size ≤ g) ∧ ∃ L', SameBags L' L ∧
      BN w w' (fun g => X g ∨ (Value.slice A (tkB L (a, b) z).length c).ownBlock = some g) p (B + 64) L' ∧ Fr (fun g => ¬ X g) W w' := by
  obtain ⟨i0, hi0, hz0, hz1, hz2⟩ := info_parts info_rows
  by_cases hz : z < 0
  · have hm : meant L (a, b) z = none := by unfold meant; rw [if_pos hz]
    have HM := Lib.hid hm
    have HN := Lib.hid h
    clear h hm
    go_enter Try.func31, Try.ntmps31
    go_wp2_with (fail)
    go_ret2
    refine ⟨none, 0, ?_, ?_, fun g hg => by simp [Value.ownBlock] at hg, L, fun _ => rfl, (HN.out.le (by omega)).fewer (fun g hg => hg.elim id fun x => by simp [Value.ownBlock] at x), Fr.refl _ _⟩
    · rw [HM.out]; unfold tkB; rw [HM.out]; rfl
    · unfold tkB; rw [HM.out]; exact World.ownsRow_nil _ _ _ _
  · obtain ⟨n, rfl⟩ : ∃ n : Nat, z = (n : Int) := ⟨z.toNat, by omega⟩
    have hzd : decide ((n : Int) < 0) = false := decide_eq_false hz
    have hmt : meant L (a, b) (n : Int) = (bag L (a, b))[n]? := by unfold meant; rw [if_neg hz]; rfl
    have HM := Lib.hid hmt
    have H32 := Lib.hid h32
    have HLN := Lib.hid hlen
    have HB := Lib.hid hB
    have P0 := Lib.hid (show PK w W W X X p B L (a, b) n 0 (.slice none 0 0) [] L from ⟨hwW, rfl, h, OR.nil W X, fun _ x => x, fun _ x => .inl x, fun g hg => by simp [Value.ownBlock] at hg, by simp, by rw [Nat.add_zero, List.take_append_drop], fun _ _ => rfl, Fr.refl _ _⟩)
    clear h hmt h32 hlen hB
    go_enter Try.func31, Try.ntmps31
    go_wp2_with (fail)
    go_loopw [10, 11, 12, 13] (fun v i x y W' => ∃ (k : Nat) (Rs : List Pk) (L' : List (Lk × List UInt8)) (Y : Nat → Prop), k ≤ 32 ∧ i = .int .i64 (k : Int) ∧ PK w W W' X Y p B L (a, b) n k v Rs L') (fun _ i _ _ _ => 32 - (intOf i).toNat)
    case atStart => exact ⟨0, [], L, X, by omega, rfl, P0.out⟩
    case round =>
      obtain ⟨k, Rs, L', Y, hk32, rfl, hP⟩ := hrel
      obtain ⟨A, c, rfl, -, -⟩ := nown_form4 hP.rest.row
      rw [hP.len] at *
      have P := Lib.hid hP
      clear hP
      by_cases hlt : k < 32
      · have hki : (k : Int) < 32 := by omega
        have hk0 : (0 : Int) ≤ (k : Int) := by omega
        have hBm : B + k < maxLen := by have := HB.out; unfold maxLen; omega
        cases hx : (bag L (a, b))[n + k]? with
        | some xl =>
          have hx2 : (bag L' (a, b))[n]? = some xl := by rw [P.out.same, seqT]; exact hx
          have HX := Lib.hid hx
          have HT := Lib.hid (P.out.net.take hBm hk n hx2)
          clear hx hx2 hBm
          go_wp2_with (fail)
          refine HT.out.mono ?_
          rintro e w2 ⟨xA, xc, rfl, x1, -, x2, x3⟩
          have K1 := Lib.hid x1
          have K2 := Lib.hid x2
          have K3 := Lib.hid x3
          clear x1 x2 x3
          have hxl : xl.length ≤ 1048576 := HLN.out _ (List.mem_of_getElem? HX.out)
          have OA := Lib.hid (show (w2.alloc (.cells #[.slice xA xl.length xc] 22)).ownsRow 0 22 1 (.slice A k c) k (Rs.map Pk.val) from by
            have := ((P.out.rest.fr K3.out (fun g hg hx => hx hg)).row).alloc (.cells #[.slice xA xl.length xc] 22)
            rw [P.out.len] at this
            exact this)
          have NW := Lib.hid (World.news_of_block (heap_alloc_new w2 (.cells #[.slice xA xl.length xc] 22)))
          go_wp2_with (first | (at_builtin; refine wpList_append_src _ rfl _ _ 34 rfl 0 22 i0 (.slice none 0 0) 1 24 Try.underlying34 hi0 hz0 hz1 hz2 rfl (by decide) (.slice A k c) k (Rs.map Pk.val) rfl OA.out _ 1 _ [Pk.val ⟨xA, xc, xl⟩] rfl rfl (fun _ => ⟨_, rfl, NW.out⟩) (by intro u hu; rw [List.mem_singleton.1 hu]; rfl) (by unfold maxLen; omega) (by omega) (Nat.zero_le _) ?_; intro v4 W4 hA; have HA := Lib.hid hA; clear hA) | fail)
          have hP4 := P.out.more (x := ⟨xA, xc, xl⟩) HX.out hxl K1.out K2.out K3.out (by rw [P.out.len]; exact HA.out)
          obtain ⟨Y4, hP4⟩ := hP4
          have P4 := Lib.hid hP4
          clear hP4
          go_roundw
          case rel => exact ⟨k + 1, _, _, Y4, by omega, by go_num, P4.out⟩
          case measure => simp [intOf]; omega
        | none =>
          have hx2 : ((bag L' (a, b)).length : Int) ≤ (n : Int) := by
            have : (bag L' (a, b))[n]? = none := by rw [P.out.same, seqT]; exact hx
            rw [List.getElem?_eq_none_iff] at this
            omega
          have HT := Lib.hid (P.out.net.takeno hk (n : Int) (.inr hx2))
          have HD := Lib.hid (show Rs.map Pk.l = (bag L (a, b)).drop n ∧ bag L' (a, b) = (bag L (a, b)).take n from by
            rw [List.getElem?_eq_none_iff] at hx
            exact ⟨by rw [P.out.got, takeN hx], by rw [P.out.same, List.drop_of_length_le hx, List.append_nil]⟩)
          clear hx hx2 hBm
          go_wp2_with (fail)
          refine HT.out.mono ?_
          rintro e w2 ⟨rfl, rfl⟩
          go_wp2_with (fail)
          go_loopw [14] (fun i W2 => ∃ (m : Nat) (L2 : List (Lk × List UInt8)), m ≤ k ∧ i = .int .i64 (m : Int) ∧ BN w W2 Y p (B + k + m) L2 ∧ bag L2 (a, b) = (bag L (a, b)).take n ++ ((bag L (a, b)).drop n).take m ∧ (∀ q, q ≠ (a, b) → bag L2 q = bag L q) ∧ Fr (fun g => ¬ Y g) wr W2) (fun i _ => k - (intOf i).toNat)
          case atStart => exact ⟨0, L', Nat.zero_le _, rfl, P.out.net, by rw [HD.out.2]; simp, P.out.other, Fr.refl _ _⟩
          case round =>
            obtain ⟨m, L2, hm, rfl, hn2, hs2, ho2, hf2⟩ := hrel
            have N2 := Lib.hid hn2
            have S2 := Lib.hid hs2
            have O2 := Lib.hid ho2
            have F2 := Lib.hid hf2
            clear hn2 hs2 ho2 hf2
            have R2 := Lib.hid (P.out.rest.fr F2.out (fun g hg hx => hx hg))
            by_cases hlt2 : m < k
            · obtain ⟨x, hx⟩ : ∃ x, Rs[m]? = some x := ⟨_, List.getElem?_eq_getElem (by rw [P.out.len]; exact hlt2)⟩
              obtain ⟨g, c', hv, -, hc⟩ := R2.out.some (by rw [P.out.len]; omega)
              rw [P.out.len] at hv
              cases hv
              obtain ⟨c1, c2⟩ := hc m x hx
              have hxl := P.out.rest.lens x (List.mem_of_getElem? hx)
              have hd : ((bag L (a, b)).drop n)[m]? = some x.l := by rw [← HD.out.1, List.getElem?_map, hx]; rfl
              have hdl : ((bag L (a, b)).drop n).length = k := by rw [← HD.out.1, List.length_map, P.out.len]
              obtain ⟨xA, xc, xl⟩ := x
              simp only at c1 c2 hxl hd
              have hbl : (bag L2 (a, b)).length < 32 := by
                have h3 := H32.out
                rw [S2.out, List.length_append, List.length_take, List.length_take, hdl]
                rw [List.length_drop] at hdl
                omega
              have HS := Lib.hid (N2.out.send (show B + k + m < maxLen by have := HB.out; unfold maxLen; omega) hk xA xl xc _ _ c2)
              rw [(sendok_true hbl hxl).1, (sendok_true hbl hxl).2] at HS
              have HDM := Lib.hid hd
              have hmi : (m : Int) < (k : Int) := by omega
              have hm0 : (0 : Int) ≤ (m : Int) := by omega
              clear hx hc c2 hxl hd hdl hbl
              go_wp2_with (fail)
              refine HS.out.mono ?_
              rintro e w3 ⟨rfl, n3, f3⟩
              have N3 := Lib.hid n3
              have F3 := Lib.hid f3
              clear n3 f3
              go_wp2_with (fail)
              go_roundw
              case rel => exact ⟨m + 1, _, hlt2, by go_num, N3.out, by rw [bag_snoc_same, S2.out, List.append_assoc, List.take_add_one, HDM.out]; rfl, fun q hq => by rw [bag_snoc_other _ (Ne.symm hq)]; exact O2.out q hq, F2.out.then F3.out⟩
              case measure => simp [intOf]; omega
            · obtain rfl : m = k := by omega
              have hdl : ((bag L (a, b)).drop n).length = m := by rw [← HD.out.1, List.length_map, P.out.len]
              have htk : ((bag L (a, b)).drop n).take m = (bag L (a, b)).drop n := List.take_of_length_le (Nat.le_of_eq hdl)
              have hall : ∀ q, bag L2 q = bag L q := fun q => by
                by_cases hq : q = (a, b)
                · rw [hq, S2.out, htk, List.take_append_drop]
                · exact O2.out q hq
              have HA := Lib.hid hall
              have HF := Lib.hid (P.out.fr.then (F2.out.mono fun g _ hg hx => hg (P.out.wide g hx)))
              by_cases hm0 : m = 0
              · subst hm0
                have hno : meant L (a, b) (n : Int) = none := by
                  rw [HM.out, List.getElem?_eq_none_iff]
                  rw [List.length_drop] at hdl
                  omega
                have HNO := Lib.hid hno
                clear hno hall hdl htk
                go_wp2_with (fail)
                go_ret2
                refine ⟨none, 0, ?_, ?_, fun g hg => by simp [Value.ownBlock] at hg, L2, HA.out, (N2.out.le (by omega)).fewer (fun g hg => hg.elim (P.out.wide g) fun x => by simp [Value.ownBlock] at x), HF.out⟩
                · unfold tkB; rw [HNO.out]; rfl
                · unfold tkB; rw [HNO.out]; exact World.ownsRow_nil _ _ _ _
              · obtain ⟨x, hx⟩ : ∃ x, Rs[0]? = some x := ⟨_, List.getElem?_eq_getElem (by rw [P.out.len]; omega)⟩
                obtain ⟨g, c', hv, -, hc⟩ := R2.out.some (by rw [P.out.len]; omega)
                rw [P.out.len] at hv
                cases hv
                obtain ⟨c1, -⟩ := hc 0 x hx
                have hd : ((bag L (a, b)).drop n)[0]? = some x.l := by rw [← HD.out.1, List.getElem?_map, hx]; rfl
                rw [List.getElem?_drop, Nat.add_zero] at hd
                have HK := Lib.hid (show meant L (a, b) (n : Int) = some x.l from by rw [HM.out]; exact hd)
                have HX := Lib.hid (List.mem_of_getElem? hx)
                have hmn : ¬ (m : Int) = 0 := by omega
                have hmp : (0 : Int) < (m : Int) := by omega
                clear hall hdl hx hc hd htk
                obtain ⟨xA, xc, xl⟩ := x
                simp only at c1
                go_wp2_with (fail)
                go_ret2
                refine ⟨xA, xc, ?_, ?_, fun g e => P.out.low g (R2.out.ox _ HX.out g (by unfold tkB at e; rw [HK.out] at e; exact e)), L2, HA.out, (N2.out.le (by omega)).fewer (fun g hg => hg.elim (P.out.wide g) fun e => R2.out.ox _ HX.out g (by unfold tkB at e; rw [HK.out] at e; exact e)), HF.out⟩
                · unfold tkB; rw [HK.out]; rfl
                · unfold tkB; rw [HK.out]; exact R2.out.pk _ HX.out
      · have hki : ¬ (k : Int) < 32 := by omega
        have HD := Lib.hid (show Rs.map Pk.l = (bag L (a, b)).drop n ∧ bag L' (a, b) = (bag L (a, b)).take n from by
            have h3 := H32.out
            exact ⟨by rw [P.out.got, takeN (by omega)], by rw [P.out.same, List.drop_of_length_le (by omega), List.append_nil]⟩)
        go_wp2_with (fail)
        go_loopw [14] (fun i W2 => ∃ (m : Nat) (L2 : List (Lk × List UInt8)), m ≤ k ∧ i = .int .i64 (m : Int) ∧ BN w W2 Y p (B + k + m) L2 ∧ bag L2 (a, b) = (bag L (a, b)).take n ++ ((bag L (a, b)).drop n).take m ∧ (∀ q, q ≠ (a, b) → bag L2 q = bag L q) ∧ Fr (fun g => ¬ Y g) wr W2) (fun i _ => k - (intOf i).toNat)
        case atStart => exact ⟨0, L', Nat.zero_le _, rfl, P.out.net, by rw [HD.out.2]; simp, P.out.other, Fr.refl _ _⟩
        case round =>
          obtain ⟨m, L2, hm, rfl, hn2, hs2, ho2, hf2⟩ := hrel
          have N2 := Lib.hid hn2
          have S2 := Lib.hid hs2
          have O2 := Lib.hid ho2
          have F2 := Lib.hid hf2
          clear hn2 hs2 ho2 hf2
          have R2 := Lib.hid (P.out.rest.fr F2.out (fun g hg hx => hx hg))
          by_cases hlt2 : m < k
          · obtain ⟨x, hx⟩ : ∃ x, Rs[m]? = some x := ⟨_, List.getElem?_eq_getElem (by rw [P.out.len]; exact hlt2)⟩
            obtain ⟨g, c', hv, -, hc⟩ := R2.out.some (by rw [P.out.len]; omega)
            rw [P.out.len] at hv
            cases hv
            obtain ⟨c1, c2⟩ := hc m x hx
            have hxl := P.out.rest.lens x (List.mem_of_getElem? hx)
            have hd : ((bag L (a, b)).drop n)[m]? = some x.l := by rw [← HD.out.1, List.getElem?_map, hx]; rfl
            have hdl : ((bag L (a, b)).drop n).length = k := by rw [← HD.out.1, List.length_map, P.out.len]
            obtain ⟨xA, xc, xl⟩ := x
            simp only at c1 c2 hxl hd
            have hbl : (bag L2 (a, b)).length < 32 := by
              have h3 := H32.out
              rw [S2.out, List.length_append, List.length_take, List.length_take, hdl]
              rw [List.length_drop] at hdl
              omega
            have HS := Lib.hid (N2.out.send (show B + k + m < maxLen by have := HB.out; unfold maxLen; omega) hk xA xl xc _ _ c2)
            rw [(sendok_true hbl hxl).1, (sendok_true hbl hxl).2] at HS
            have HDM := Lib.hid hd
            have hmi : (m : Int) < (k : Int) := by omega
            have hm0 : (0 : Int) ≤ (m : Int) := by omega
            clear hx hc c2 hxl hd hdl hbl
            go_wp2_with (fail)
            refine HS.out.mono ?_
            rintro e w3 ⟨rfl, n3, f3⟩
            have N3 := Lib.hid n3
            have F3 := Lib.hid f3
            clear n3 f3
            go_wp2_with (fail)
            go_roundw
            case rel => exact ⟨m + 1, _, hlt2, by go_num, N3.out, by rw [bag_snoc_same, S2.out, List.append_assoc, List.take_add_one, HDM.out]; rfl, fun q hq => by rw [bag_snoc_other _ (Ne.symm hq)]; exact O2.out q hq, F2.out.then F3.out⟩
            case measure => simp [intOf]; omega
          · obtain rfl : m = k := by omega
            have hdl : ((bag L (a, b)).drop n).length = m := by rw [← HD.out.1, List.length_map, P.out.len]
            have htk : ((bag L (a, b)).drop n).take m = (bag L (a, b)).drop n := List.take_of_length_le (Nat.le_of_eq hdl)
            have hall : ∀ q, bag L2 q = bag L q := fun q => by
              by_cases hq : q = (a, b)
              · rw [hq, S2.out, htk, List.take_append_drop]
              · exact O2.out q hq
            have HA := Lib.hid hall
            have HF := Lib.hid (P.out.fr.then (F2.out.mono fun g _ hg hx => hg (P.out.wide g hx)))
            by_cases hm0 : m = 0
            · subst hm0
              have hno : meant L (a, b) (n : Int) = none := by
                rw [HM.out, List.getElem?_eq_none_iff]
                rw [List.length_drop] at hdl
                omega
              have HNO := Lib.hid hno
              clear hno hall hdl htk
              go_wp2_with (fail)
              go_ret2
              refine ⟨none, 0, ?_, ?_, fun g hg => by simp [Value.ownBlock] at hg, L2, HA.out, (N2.out.le (by omega)).fewer (fun g hg => hg.elim (P.out.wide g) fun x => by simp [Value.ownBlock] at x), HF.out⟩
              · unfold tkB; rw [HNO.out]; rfl
              · unfold tkB; rw [HNO.out]; exact World.ownsRow_nil _ _ _ _
            · obtain ⟨x, hx⟩ : ∃ x, Rs[0]? = some x := ⟨_, List.getElem?_eq_getElem (by rw [P.out.len]; omega)⟩
              obtain ⟨g, c', hv, -, hc⟩ := R2.out.some (by rw [P.out.len]; omega)
              rw [P.out.len] at hv
              cases hv
              obtain ⟨c1, -⟩ := hc 0 x hx
              have hd : ((bag L (a, b)).drop n)[0]? = some x.l := by rw [← HD.out.1, List.getElem?_map, hx]; rfl
              rw [List.getElem?_drop, Nat.add_zero] at hd
              have HK := Lib.hid (show meant L (a, b) (n : Int) = some x.l from by rw [HM.out]; exact hd)
              have HX := Lib.hid (List.mem_of_getElem? hx)
              have hmn : ¬ (m : Int) = 0 := by omega
              have hmp : (0 : Int) < (m : Int) := by omega
              clear hall hdl hx hc hd htk
              obtain ⟨xA, xc, xl⟩ := x
              simp only at c1
              go_wp2_with (fail)
              go_ret2
              refine ⟨xA, xc, ?_, ?_, fun g e => P.out.low g (R2.out.ox _ HX.out g (by unfold tkB at e; rw [HK.out] at e; exact e)), L2, HA.out, (N2.out.le (by omega)).fewer (fun g hg => hg.elim (P.out.wide g) fun e => R2.out.ox _ HX.out g (by unfold tkB at e; rw [HK.out] at e; exact e)), HF.out⟩
              · unfold tkB; rw [HK.out]; rfl
              · unfold tkB; rw [HK.out]; exact R2.out.pk _ HX.out
end Go.Proofs.Ytmgkenbfjlahpaa

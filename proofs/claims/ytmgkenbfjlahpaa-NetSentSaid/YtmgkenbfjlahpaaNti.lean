/-
  Nti: links (the statement's), awake.
-/
import Derived.Test.YtmgkenbfjlahpaaNth
import Derived.Laws.StructEq
import Derived.ChangeKeysEq
import Derived.Lib.SlBytesConst
namespace Go.Proofs.Ytmgkenbfjlahpaa
open Go.RowKit Go.WideMaps Go.Sort

/-- Links that can be read. -/
def RdK (w : World) (A : Option Addr) (ks : List Lk) : Prop := 0 < ks.length → ∃ g o, A = some ⟨g, o, none⟩ ∧ g < w.heap.size ∧ ∀ i, i < ks.length → w.cell? ⟨g, o + i * 2, none⟩ = some (.int .i64 (ks.getD i (0, 0)).1) ∧ w.cell? ⟨g, o + i * 2 + 1, none⟩ = some (.int .i64 (ks.getD i (0, 0)).2)
theorem RdK.fr {M : Nat → Prop} {w w' : World} {A : Option Addr} {ks : List Lk} (h : RdK w A ks) (f : Fr M w w') (hm : ∀ g o, A = some ⟨g, o, none⟩ → ¬ M g) : RdK w' A ks := fun hl => by
  obtain ⟨g, o, rfl, hg, hc⟩ := h hl
  refine ⟨g, o, rfl, Nat.lt_of_lt_of_le hg f.size, fun i hi => ⟨?_, ?_⟩⟩
  · exact (f.cell (p := ⟨g, o + i * 2, none⟩) hg (hm g o rfl)).trans (hc i hi).1
  · exact (f.cell (p := ⟨g, o + i * 2 + 1, none⟩) hg (hm g o rfl)).trans (hc i hi).2
theorem RdK.own {w : World} {base n c : Nat} {A : Option Addr} {ks : List Lk} (h : w.ownsRow base 52 2 (.slice A n c) n (kcs ks)) : RdK w A ks := fun hl => by
  have hn : n = ks.length := by have := h.1; rw [kcs_len] at this; omega
  obtain ⟨g, cap, hv⟩ := own_some h (by omega)
  have hP : A = some ⟨g, 0, none⟩ := by injection hv
  have hk : ∀ i, i < ks.length → ks.toArray[i]! = ks.getD i (0, 0) := fun i hi => by simp [hi, List.getD]
  refine ⟨g, 0, hP, (h.lt g (by rw [hP]; rfl)).2, fun i hi => ⟨?_, ?_⟩⟩
  · have := h.cells (g := g) (by rw [hP]; rfl) (i * 2) _ (kcs_get ks (i * 2) (by omega))
    rw [Lib.addr_add, show i * 2 / 2 = i by omega, show i * 2 % 2 = 0 by omega, hk i hi] at this
    simpa [kc] using this
  · have := h.cells (g := g) (by rw [hP]; rfl) (i * 2 + 1) _ (kcs_get ks (i * 2 + 1) (by omega))
    rw [Lib.addr_add, show (i * 2 + 1) / 2 = i by omega, show (i * 2 + 1) % 2 = 1 by omega, hk i hi] at this
    simpa [kc, Nat.add_assoc] using this

theorem info_int : (Try.prog.info? 3).map (fun i => (i.zero, i.size, i.bytes)) = some (some (.int .i64 0), 1, 8) := by kernel_rfl
set_option maxRecDepth 20000 in
theorem lk_neq (x0 x1 y0 y1 : Int) (W : World) : (binOp .neq 52 (.agg #[.int .i64 x0, .int .i64 x1]) (.agg #[.int .i64 y0, .int .i64 y1])).run Try.prog W = .ok (.bool (!((x0, x1) == (y0, y1)))) W := by
  obtain ⟨d, hd⟩ : ∃ d, 10000 = d + 1 + 1 := ⟨9998, rfl⟩
  obtain ⟨i, hi, _⟩ := info_parts info_int
  rw [run_neq_struct, hd, run_equalIn_array W _ _ _ Try.underlying52 hi]
  have hc : Try.prog.cellsOf 3 = 1 := by kernel_rfl
  rw [hc]
  have hb : ((x0, x1) == (y0, y1)) = decide (x0 = y0 ∧ x1 = y1) := by rw [Bool.eq_iff_iff]; simp
  rw [hb, show List.range 2 = [0, 1] from rfl]
  simp [go_sem, Op.eqItems, Try.underlying3]
  by_cases h0 : x0 = y0 <;> by_cases h1 : x1 = y1 <;> simp [h0, h1]

set_option maxRecDepth 8000 in
set_option maxHeartbeats 1600000 in
theorem slinks_calls (A A' : Option Addr) (l l' : List Lk) (c c' : Nat) (w : World) (h : RdK w A l) (h' : RdK w A' l') (hl : l.length ≤ 140737488355328) (hl' : l'.length ≤ 140737488355328) :
    Calls Try.prog 23 #[.slice A l.length c, .slice A' l'.length c'] w fun e w' => e = .returned (.bool (l == l')) ∧ ∃ n, w' = w.drewN n := by
  by_cases hne : l.length = l'.length
  · go_enter Try.func23, Try.ntmps23
    have HE := Lib.hid hne
    have hb : ((l.length : Int) != (l'.length : Int)) = false := by simp [hne]
    clear hne
    go_wp2
    clear hb
    go_loopw [5] (fun i wr => ∃ k : Nat, k ≤ l.length ∧ i = .int .i64 (k : Int) ∧ l.take k = l'.take k ∧ ∃ n, wr = w.drewN n) (fun i _ => l.length - (intOf i).toNat)
    case atStart => exact ⟨0, Nat.zero_le _, rfl, by simp, 0, rfl⟩
    case round =>
      obtain ⟨k, hk, rfl, htk, n, rfl⟩ := hrel
      have HT := Lib.hid htk
      clear htk
      by_cases hlt : k < l.length
      · have hlt' : k < l'.length := by rw [← HE.out]; exact hlt
        obtain ⟨b, o, rfl, -, h0⟩ := h (by omega)
        obtain ⟨b', o', rfl, -, h0'⟩ := h' (by omega)
        obtain ⟨hc0, hc1⟩ := h0 k hlt
        obtain ⟨hd0, hd1⟩ := h0' k hlt'
        have HG := Lib.hid (show l.getD k (0, 0) = l[k] by simp [List.getD, hlt])
        have HG' := Lib.hid (show l'.getD k (0, 0) = l'[k] by simp [List.getD, hlt'])
        clear h h' h0 h0'
        generalize l.getD k (0, 0) = x at hc0 hc1 HG
        generalize l'.getD k (0, 0) = y at hd0 hd1 HG'
        obtain ⟨x0, x1⟩ := x
        obtain ⟨y0, y1⟩ := y
        have hi1 : ((k : Int) < (l.length : Int)) := by omega
        have hi2 : ((k : Int) < (l'.length : Int)) := by omega
        have hq := fun W => lk_neq x0 x1 y0 y1 W
        by_cases hxy : (x0, x1) = (y0, y1)
        · rw [show ((x0, x1) == (y0, y1)) = true by rw [beq_iff_eq]; exact hxy] at hq
          have HX := Lib.hid hxy
          clear hxy
          simp only [Bool.not_true] at hq
          go_wp2
          go_quiet (fail)
          go_wp2
          go_roundw
          case rel =>
            refine ⟨k + 1, by omega, by go_num, ?_, n + nq, by simp⟩
            rw [List.take_succ_eq_append_getElem hlt, List.take_succ_eq_append_getElem hlt', HT.out, ← HG.out, ← HG'.out, HX.out]
          case measure => simp [intOf]; omega
        · rw [show ((x0, x1) == (y0, y1)) = false by rw [beq_eq_false_iff_ne]; exact hxy] at hq
          have hres : (l == l') = false := by
            rw [beq_eq_false_iff_ne]
            rintro rfl
            exact hxy (by rw [HG.out, HG'.out])
          have HR := Lib.hid hres
          clear hxy hres
          simp only [Bool.not_false] at hq
          go_wp2
          go_quiet (fail)
          go_wp2
          go_ret
          exact ⟨by rw [HR.out]; rfl, n + nq, by simp⟩
      · have hres : (l == l') = true := by
          rw [beq_iff_eq]
          have := HT.out
          rwa [List.take_of_length_le (by omega), List.take_of_length_le (by have := HE.out; omega)] at this
        have HR := Lib.hid hres
        clear hres h h'
        go_wp2
        go_ret
        exact ⟨by rw [HR.out]; rfl, n, rfl⟩
  · have hb : ((l.length : Int) != (l'.length : Int)) = true := by rw [bne_iff_ne]; omega
    have hres : (l == l') = false := by
      rw [beq_eq_false_iff_ne]
      rintro rfl
      exact hne rfl
    have HR := Lib.hid hres
    clear hres h h' hne
    go_enter Try.func23, Try.ntmps23
    go_wp2
    go_ret
    exact ⟨by rw [HR.out]; rfl, 0, rfl⟩

theorem rdk_new (w : World) (ks : List Lk) (t : TypeId) : RdK (w.alloc (.cells (kcs ks).toArray t)) (some ⟨w.heap.size, 0, none⟩) ks := fun hl => by
  refine ⟨_, 0, rfl, by simp, fun i hi => ?_⟩
  have hk : ks.toArray[i]! = ks.getD i (0, 0) := by simp [hi, List.getD]
  have h1 := kcs_get ks (i * 2) (by omega)
  have h2 := kcs_get ks (i * 2 + 1) (by omega)
  rw [show i * 2 / 2 = i by omega, show i * 2 % 2 = 0 by omega, hk] at h1
  rw [show (i * 2 + 1) / 2 = i by omega, show (i * 2 + 1) % 2 = 1 by omega, hk] at h2
  rw [Lib.cell_of_heap (heap_alloc_new w (.cells (kcs ks).toArray t)), Lib.cell_of_heap (heap_alloc_new w (.cells (kcs ks).toArray t)), Nat.zero_add, List.getElem?_toArray, List.getElem?_toArray, h1, h2]
  exact ⟨rfl, rfl⟩
/-- A net made since w. -/
def AN (w W : World) (p B : Nat) (L : List (Lk × List UInt8)) : Prop := ∃ O, NetV W p B L O ∧ (∀ g, O g → w.heap.size ≤ g) ∧ Fr NoB w W
theorem AN.fr {w W : World} {p B : Nat} {L : List (Lk × List UInt8)} (h : AN w W p B L) : Fr NoB w W := by obtain ⟨O, _, _, h⟩ := h; exact h
theorem AN.step {w W W' : World} {p B : Nat} {L : List (Lk × List UInt8)} (h : AN w W p B L) (f : Fr NoB W W') : AN w W' p B L := by
  obtain ⟨O, h1, h2, h3⟩ := h
  exact ⟨O, h1.fr f (fun _ _ x => x), h2, h3.then f⟩
theorem AN.new (w W : World) (F : Fr NoB w W) : Calls Try.prog 9 #[] W fun e w' => ∃ p, e = .returned (.pointer (some ⟨p, 0, none⟩)) ∧ AN w w' p 0 [] := by
  refine (new_calls W).mono ?_
  rintro e w' ⟨p, rfl, h1, h2⟩
  exact ⟨p, rfl, _, h1, fun g hg => Nat.le_trans F.size hg.1, F.then h2⟩
theorem AN.send {w W : World} {p B : Nat} {L : List (Lk × List UInt8)} (h : AN w W p B L) (hB : B < maxLen) {a b : Int} (hk : InR (a, b)) (A : Option Addr) (l : List UInt8) (c lo hi : Nat) (hr : Rd W lo hi A l) :
    Calls Try.prog 11 #[.pointer (some ⟨p, 0, none⟩), .int .i64 a, .int .i64 b, .slice A l.length c] W fun e w' => e = .returned (.bool (sendOk L (a, b) l)) ∧ AN w w' p (B + 1) (sendL L (a, b) l) := by
  obtain ⟨O, h1, h2, h3⟩ := h
  refine (send_calls h1 hB hk A l c lo hi hr).mono ?_
  rintro e w' ⟨rfl, k1, k2⟩
  exact ⟨rfl, _, k1, fun g hg => hg.elim (h2 g) (fun x => Nat.le_trans h3.size x.1), h3.trans k2 (fun k hk hx => by have := h2 k hx; omega)⟩
theorem AN.count {w W : World} {p B : Nat} {L : List (Lk × List UInt8)} (h : AN w W p B L) {a b : Int} (hk : InR (a, b)) :
    Calls Try.prog 21 #[.pointer (some ⟨p, 0, none⟩), .int .i64 a, .int .i64 b] W fun e w' => e = .returned (.int .i64 ((bag L (a, b)).length : Int)) ∧ W = w' := by
  obtain ⟨O, h1, h2, h3⟩ := h
  exact count_calls h1 hk
theorem AN.twice {w W : World} {p B : Nat} {L : List (Lk × List UInt8)} (h : AN w W p B L) (hB : B < maxLen) {a b : Int} (hk : InR (a, b)) (n : Nat) {l : List UInt8} (hl : (bag L (a, b))[n]? = some l) :
    Calls Try.prog 12 #[.pointer (some ⟨p, 0, none⟩), .int .i64 a, .int .i64 b, .int .i64 (n : Int)] W fun e w' => e = .returned (.bool (sendOk L (a, b) l)) ∧ AN w w' p (B + 1) (sendL L (a, b) l) := by
  obtain ⟨O, h1, h2, h3⟩ := h
  refine (twice_some h1 hB hk n hl).mono ?_
  rintro e w' ⟨rfl, k1, k2⟩
  exact ⟨rfl, _, k1, fun g hg => hg.elim (h2 g) (fun x => Nat.le_trans h3.size x.1), h3.trans k2 (fun k hk hx => by have := h2 k hx; omega)⟩
theorem AN.take {w W : World} {p B : Nat} {L : List (Lk × List UInt8)} (h : AN w W p B L) (hB : B < maxLen) {a b : Int} (hk : InR (a, b)) (n : Nat) {l : List UInt8} (hl : (bag L (a, b))[n]? = some l) :
    Calls Try.prog 15 #[.pointer (some ⟨p, 0, none⟩), .int .i64 a, .int .i64 b, .int .i64 (n : Int)] W fun e w' => ∃ A c, e = .returned (.tuple #[.slice A l.length c, .bool true]) ∧ w'.ownsRow w.heap.size 5 1 (.slice A l.length c) l.length (bv l) ∧ AN w w' p (B + 1) (dropL L (a, b) n) := by
  obtain ⟨O, h1, h2, h3⟩ := h
  refine (take_some h1 hB hk n (List.getElem?_eq_some_iff.1 hl).1).mono ?_
  rintro e w' ⟨⟨xA, xc, xl⟩, rfl, k0, k1, k2, k3, k4⟩
  rw [hl] at k0
  cases k0
  refine ⟨xA, xc, rfl, ⟨k1.1, ?_⟩, _, k3, fun g hg => h2 g hg.1, h3.trans k4 (fun k hk hx => by have := h2 k hx; omega)⟩
  rcases k1.2 with e | ⟨g, cap, cur, hv, hg, r⟩
  · exact .inl e
  · exact .inr ⟨g, cap, cur, hv, h2 g (k2 g (by rw [hv]; rfl)), r⟩
theorem AN.takeno {w W : World} {p B : Nat} {L : List (Lk × List UInt8)} (h : AN w W p B L) {a b : Int} (hk : InR (a, b)) (at' : Int) (ho : at' < 0 ∨ ((bag L (a, b)).length : Int) ≤ at') :
    Calls Try.prog 15 #[.pointer (some ⟨p, 0, none⟩), .int .i64 a, .int .i64 b, .int .i64 at'] W fun e w' => e = .returned (.tuple #[.slice none 0 0, .bool false]) ∧ W = w' := by
  obtain ⟨O, h1, h2, h3⟩ := h
  exact take_none h1 hk at' ho
theorem AN.twiceno {w W : World} {p B : Nat} {L : List (Lk × List UInt8)} (h : AN w W p B L) {a b : Int} (hk : InR (a, b)) (at' : Int) (ho : at' < 0 ∨ ((bag L (a, b)).length : Int) ≤ at') :
    Calls Try.prog 12 #[.pointer (some ⟨p, 0, none⟩), .int .i64 a, .int .i64 b, .int .i64 at'] W fun e w' => e = .returned (.bool false) ∧ W = w' := by
  obtain ⟨O, h1, h2, h3⟩ := h
  exact twice_none h1 hk at' ho
theorem AN.clear {w W : World} {p B : Nat} {L : List (Lk × List UInt8)} (h : AN w W p B L) {a b : Int} (hk : InR (a, b)) :
    Calls Try.prog 27 #[.pointer (some ⟨p, 0, none⟩), .int .i64 a, .int .i64 b] W fun e w' => e = .returned (.tuple #[]) ∧ AN w w' p B (clearL L a b) := by
  obtain ⟨O, h1, h2, h3⟩ := h
  refine (clear_calls h1 hk).mono ?_
  rintro e w' ⟨rfl, k1, k2⟩
  exact ⟨rfl, _, k1, h2, h3.trans k2 (fun k hk hx => by have := h2 k hx; omega)⟩
theorem AN.links {w W : World} {p B : Nat} {L : List (Lk × List UInt8)} (h : AN w W p B L) (hB : B ≤ 1000000000) :
    Calls Try.prog 24 #[.pointer (some ⟨p, 0, none⟩)] W fun e w' => ∃ A c, e = .returned (.slice A (linksL L).length c) ∧ RdK w' A (linksL L) ∧ AN w w' p B L := by
  obtain ⟨O, h1, h2, h3⟩ := h
  refine (links_calls h1 hB).mono ?_
  rintro e w' ⟨A, c, rfl, k1, k2⟩
  exact ⟨A, c, rfl, RdK.own k1, O, h1.fr k2 (fun _ _ x => x), h2, h3.then k2⟩
theorem rd_new (w : World) (l : List UInt8) (t : TypeId) (fr : Nat × Nat) : Rd (w.alloc (.cells (bv l).toArray t fr)) 0 (w.alloc (.cells (bv l).toArray t fr)).heap.size (some ⟨w.heap.size, 0, none⟩) l := fun hl => by
  refine ⟨_, 0, rfl, Nat.zero_le _, by simp, fun i hi => ?_⟩
  rw [Lib.cell_of_heap (heap_alloc_new w (.cells (bv l).toArray t fr)) (0 + i), Nat.zero_add]
  rw [List.getElem?_toArray]
  exact bv_get l i hi

theorem aw1 : sendOk [] (1, 2) [120] = true ∧ sendL [] (1, 2) [120] = [((1, 2), [120])] := ⟨rfl, rfl⟩
theorem aw2 : sendOk [((1, 2), [120])] (1, 2) [121] = true ∧ sendL [((1, 2), [120])] (1, 2) [121] = [((1, 2), [120]), ((1, 2), [121])] := ⟨rfl, rfl⟩
theorem aw3 : (bag [((1, 2), ([120] : List UInt8)), ((1, 2), [121])] (1, 2)).length = 2 ∧ (bag [((1, 2), ([120] : List UInt8)), ((1, 2), [121])] (2, 1)).length = 0 := ⟨rfl, rfl⟩
theorem aw4 : linksL [((1, 2), ([120] : List UInt8)), ((1, 2), [121])] = [(1, 2)] := rfl
theorem aw5 : sendOk [((1, 2), [120]), ((1, 2), [121])] (1, 2) [120] = true ∧ sendL [((1, 2), [120]), ((1, 2), [121])] (1, 2) [120] = [((1, 2), [120]), ((1, 2), [121]), ((1, 2), [120])] := ⟨rfl, rfl⟩
theorem aw6 : dropL [((1, 2), ([120] : List UInt8)), ((1, 2), [121]), ((1, 2), [120])] (1, 2) 0 = [((1, 2), [121]), ((1, 2), [120])] ∧ dropL [((1, 2), ([121] : List UInt8)), ((1, 2), [120])] (1, 2) 1 = [((1, 2), [121])] := ⟨rfl, rfl⟩
theorem own_step {w W : World} {e size n : Nat} {v : Value} {xs : List Value} {base : Nat} (h : w.ownsRow base e size v n xs) (f : Fr NoB w W) : W.ownsRow base e size v n xs :=
  own_keep h fun g hg => f.block g (h.lt g hg).2 (fun x => x)

set_option maxRecDepth 8000 in
set_option maxHeartbeats 6400000 in
theorem awake_calls (w : World) : Calls Try.prog 8 #[] w fun e w' => e = .returned (.bool true) ∧ Fr NoB w w' := by
  have hk12 : InR (1, 2) := by unfold InR; omega
  have hk21 : InR (2, 1) := by unfold InR; omega
  have kc := fun (w : World) (C : Array Value) (n c : Nat) => Lib.run_convert_bytes_const (P := Try.prog) w 22 5 C n c Try.underlying22 Try.underlying5
  go_enter Try.func8, Try.ntmps8
  go_wp2_with (fail)
  refine (AN.new w w (Fr.refl NoB w)).mono ?_
  rintro e w1 ⟨p, rfl, hN⟩
  have N1 := Lib.hid (hN.step ((Fr.refl NoB w1).alloc (.cells #[.int .u8 120] 5 (1, 2))))
  clear hN
  go_wp2_with (fail)
  have s1 := N1.out.send (by unfold maxLen; omega) hk12 _ [120] 1 _ _ (rd_new w1 [120] 5 (1, 2))
  rw [aw1.1, aw1.2] at s1
  refine s1.mono ?_
  rintro e w2 ⟨rfl, hN⟩
  have N2 := Lib.hid (hN.step ((Fr.refl NoB w2).alloc (.cells #[.int .u8 121] 5 (1, 2))))
  clear hN s1 N1
  go_wp2_with (fail)
  have s2 := N2.out.send (by unfold maxLen; omega) hk12 _ [121] 1 _ _ (rd_new w2 [121] 5 (1, 2))
  rw [aw2.1, aw2.2] at s2
  refine s2.mono ?_
  rintro e w3 ⟨rfl, hN⟩
  have N3 := Lib.hid hN
  have c1 := hN.count hk12
  have c2 := hN.count hk21
  rw [aw3.1] at c1
  rw [aw3.2] at c2
  clear hN s2 N2
  go_wp2_with (fail)
  refine c1.mono ?_
  rintro e w4 ⟨rfl, rfl⟩
  go_wp2_with (fail)
  refine c2.mono ?_
  rintro e w4 ⟨rfl, rfl⟩
  go_wp2_with (fail)
  have l1 := N3.out.links (by omega)
  rw [aw4] at l1
  refine l1.mono ?_
  rintro e w4 ⟨A, c, rfl, hk, hN⟩
  have N4 := Lib.hid (hN.step ((Fr.refl NoB w4).alloc (.cells #[.int .i64 1, .int .i64 2] 52)))
  have HK := Lib.hid (hk.fr ((Fr.refl NoB w4).alloc (.cells #[.int .i64 1, .int .i64 2] 52)) (fun _ _ _ x => x))
  clear hN hk l1 c1 c2 N3
  go_wp2_with (fail)
  refine (slinks_calls A _ [(1, 2)] [(1, 2)] c 1 _ HK.out (rdk_new w4 [(1, 2)] _) (by simp) (by simp)).mono ?_
  rintro e w5 ⟨rfl, n5, rfl⟩
  have N5 := Lib.hid (N4.out.step ((Fr.refl NoB _).drewN n5))
  generalize (w4.alloc (.cells (kcs [(1, 2)]).toArray 52)).drewN n5 = w5 at N5 ⊢
  clear N4 HK
  have t1 := N5.out.twice (by unfold maxLen; omega) hk12 0 (l := [120]) rfl
  rw [aw5.1, aw5.2] at t1
  have hb5 : ([((1 : Int), (2 : Int))] == [(1, 2)]) = true := rfl
  rw [hb5]
  clear hb5
  go_wp2_with (fail)
  refine t1.mono ?_
  rintro e w6 ⟨rfl, hN⟩
  have N6 := Lib.hid hN
  clear hN t1 N5
  go_wp2_with (fail)
  obtain ⟨O, hO1, hO2, hO3⟩ := N6.out
  have k1 := take_some hO1 (by unfold maxLen; omega) hk12 0 (by decide)
  rw [aw6.1] at k1
  refine k1.mono ?_
  rintro e w7 ⟨⟨A1, c1, l1⟩, rfl, hl1, ho1, hb1, hN, hf7⟩
  obtain rfl : [120] = l1 := Option.some.inj hl1
  have N7 := Lib.hid hN
  have O1 := Lib.hid ho1
  have F7 := Lib.hid (hO3.trans hf7 (fun k hk hx => by have := hO2 k hx; omega))
  clear hN k1 N6 ho1 hl1 hO1 hO3 hf7
  simp only [Pk.val]
  go_wp2_with (fail)
  have k2 := take_some N7.out (by unfold maxLen; omega) hk12 1 (by decide)
  rw [aw6.2] at k2
  refine k2.mono ?_
  rintro e w8 ⟨⟨A2, c2, l2⟩, rfl, hl2, ho2, hb2, hN, hf8⟩
  obtain rfl : [120] = l2 := Option.some.inj hl2
  have O1b := Lib.hid (ownBlock_kept O1.out hf8 (fun g hg hx => hx.2 hg))
  have O2 := Lib.hid ho2
  have F8 := Lib.hid (F7.out.trans hf8 (fun k hk hx => by have := hO2 k hx.1; omega))
  have N8 := Lib.hid hN
  clear hN k2 ho2 N7 hl2 hf8 O1 F7
  simp only [Pk.val]
  go_wp2_with (fail)
  refine (take_none N8.out hk12 1 (.inr (by decide))).mono ?_
  rintro e w9 ⟨rfl, rfl⟩
  have v1 : (convert 22 9 (.slice A1 1 c1)).run Try.prog w8 = .ok (.string ⟨#[120]⟩) w8 := conv_string (l := [120]) Try.underlying22 Try.underlying5 Try.underlying9 (own_rd O1b.out)
  have v2 : (convert 22 9 (.slice A2 1 c2)).run Try.prog w8 = .ok (.string ⟨#[120]⟩) w8 := conv_string (l := [120]) Try.underlying22 Try.underlying5 Try.underlying9 (own_rd O2.out)
  have c3 := count_calls N8.out hk12
  rw [show (bag [((1, 2), ([121] : List UInt8))] (1, 2)).length = 1 from rfl] at c3
  clear N8 O2 O1b hb1 hb2
  go_wp2_with (fail)
  refine c3.mono ?_
  rintro e w9 ⟨rfl, rfl⟩
  go_wp2
  go_ret
  exact ⟨rfl, F8.out⟩
end Go.Proofs.Ytmgkenbfjlahpaa

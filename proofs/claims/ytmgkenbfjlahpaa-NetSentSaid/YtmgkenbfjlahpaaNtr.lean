/-
  Ntr: the document's Take, Clear.
-/
import Derived.Test.YtmgkenbfjlahpaaNtq
namespace Go.Proofs.Ytmgkenbfjlahpaa
open Go.RowKit Go.WideMaps Go.Sort

theorem RS.pkp {w : World} {p : Nat} {v : Value} {V : PkV} {O : Nat → Prop} (h : RS w p v V O) : ∀ y ∈ V, ∀ g, y.2.val.ownBlock = some g → g ≠ p := fun y hy g hg e => by
  subst e
  rcases (h.pk y hy).2 with ⟨e, _⟩ | ⟨g1, cap, cur, e, _, hh, _⟩
  · rw [e] at hg; cases hg
  rw [e] at hg
  obtain rfl : g1 = g := by simpa [Value.ownBlock] using hg
  rw [h.box] at hh
  simp at hh
theorem td_len {α : Type} {V : List α} {i : Nat} (h : i < V.length) : (V.take i ++ V.drop (i + 1)).length = i + (V.length - (i + 1)) := by
  rw [List.length_append, List.length_take, List.length_drop, Nat.min_eq_left (Nat.le_of_lt h)]
/-- Another row in the document's box. -/
theorem RS.setv {w W : World} {p : Nat} {v v2 : Value} {V V' : PkV} {O : Nat → Prop} (h : RS w p v V O) (f : Fr NoB w W) (ho : W.ownsRow w.heap.size 86 3 v2 V'.length (pcs V')) (hs : ∀ y ∈ V', y ∈ V) :
    RS (W.setCell ⟨p, 0, none⟩ v2) p v2 V' (fun g => O g ∨ New w W g) ∧ Fr (OneB p) w (W.setCell ⟨p, 0, none⟩ v2) := by
  have hpl : p < w.heap.size := Lib.lt_of_heap h.box
  have hb := f.at_ h.box (fun x => x)
  have F : Fr (OneB p) w (W.setCell ⟨p, 0, none⟩ v2) := (f.no (M := OneB p)).setCell (p := ⟨p, 0, none⟩) (fun _ => rfl) _
  have hne : ∀ y ∈ V, ∀ g, y.2.val.ownBlock = some g → g ≠ p := fun y hy g hg e => by
    subst e
    rcases (h.pk y hy).2 with ⟨e, _⟩ | ⟨g1, cap, cur, e, _, hh, _⟩
    · rw [e] at hg; cases hg
    rw [e] at hg
    obtain rfl : g1 = g := by simpa [Value.ownBlock] using hg
    rw [h.box] at hh
    simp at hh
  refine ⟨⟨by simp [World.setCell, Array.getElem?_modify, hb], ?_, fun y hy => ?_, .inl h.op, fun g hg => ?_, fun y hy g hg => .inl (h.ox y (hs y hy) g hg), fun g hg => ?_, fun y hy => h.lens y (hs y hy)⟩, F⟩
  · exact nown_base (own_keep ho fun g hg => Below.heap_setCell W ⟨p, 0, none⟩ _ g (by have := (ho.lt g hg).1; intro e; have e' : g = p := e; omega)) (Nat.zero_le _)
  · exact ownBlock_kept (h.pk y (hs y hy)) F fun g hg e => hne y (hs y hy) g hg e
  · exact .inr ⟨(ho.lt g hg).1, (ho.lt g hg).2⟩
  · rcases hg with hg | hg
    · exact Nat.lt_of_lt_of_le (h.lt g hg) F.size
    · simpa using hg.2

set_option maxHeartbeats 1600000 in
theorem rtake_none {w : World} {p : Nat} {L : List (Lk × List UInt8)} {O : Nat → Prop} (h : RW w p L O) (hl : L.length ≤ 1000000000) {a b : Int} (at' : Int) (hai : at' ≤ 9223372036854775807) (ho : at' < 0 ∨ ((bag L (a, b)).length : Int) ≤ at') :
    Calls Try.prog 39 #[.pointer (some ⟨p, 0, none⟩), .int .i64 a, .int .i64 b, .int .i64 at'] w fun e w' => e = .returned (.tuple #[.slice none 0 0, .bool false]) ∧ w = w' := by
  obtain ⟨v, V, h1, rfl⟩ := h
  rw [bytesV_len] at hl
  rw [bag_bytes, List.length_map] at ho
  by_cases hneg : at' < 0
  · have hp := rplace_any h1 a b at' hl
    have hd1 : decide (at' < 0) = true := decide_eq_true hneg
    clear h1 ho
    go_enter Try.func39, Try.ntmps39
    go_wp2_with (fail)
    refine hp.mono ?_
    rintro e w' ⟨⟨r, rfl⟩, rfl⟩
    go_wp2
    go_ret2
    exact ⟨rfl, rfl⟩
  · obtain ⟨n, rfl⟩ : ∃ n : Nat, at' = (n : Int) := ⟨at'.toNat, by omega⟩
    have hp := rplace_calls h1 a b n hl hai
    rw [plI_none (by have := ho.resolve_left hneg; omega)] at hp
    have hd1 : decide ((n : Int) < 0) = false := decide_eq_false hneg
    clear h1 ho
    go_enter Try.func39, Try.ntmps39
    go_wp2_with (fail)
    refine hp.mono ?_
    rintro e w' ⟨rfl, rfl⟩
    go_wp2
    go_ret2
    exact ⟨rfl, rfl⟩

theorem wrap_succ {i : Nat} (h : i ≤ 1000000000) : wrap64 ((i : Int) + 1) = (i : Int) + 1 := by unfold wrap64; omega
theorem not_lt_cast {i c : Nat} (h : i ≤ c) : ¬ (c : Int) < (i : Int) := by omega
theorem not_lt_succ {i c : Nat} (h : i < c) : ¬ (c : Int) < (i : Int) + 1 := by omega
theorem pcs_take_len {V : PkV} {i : Nat} (h : i < V.length) : (pcs (V.take i)).length = i * 3 := by rw [pcs_len, List.length_take, Nat.min_eq_left (Nat.le_of_lt h)]
theorem pcs_drop_len {V : PkV} (i : Nat) : (pcs (V.drop i)).length = (V.length - i) * 3 := by rw [pcs_len, List.length_drop]
theorem bd3 {i : Nat} (h : i ≤ 1000000000) : 0 + i ≤ maxLen ∧ (0 + i) * 40 ≤ 140737488355328 := by unfold maxLen; omega
theorem bd4 {i n : Nat} (h : i < n) (hn : n ≤ 1000000000) : i + (n - (i + 1)) ≤ maxLen ∧ (i + (n - (i + 1))) * 40 ≤ 140737488355328 := by unfold maxLen; omega
theorem no_more {c i n : Nat} (h : c = i + 1) (hn : n ≤ c) : ¬ 0 < n - (i + 1) := by omega
theorem bd1 {n : Nat} (h : n ≤ 1048576) : 0 + n ≤ maxLen ∧ (0 + n) * 1 ≤ 140737488355328 := by unfold maxLen; omega
theorem src_take {w W : World} {g : Nat} {V : PkV} (F : Fr NoB w W) (hg : g < w.heap.size) (h : ∀ (j : Nat) u, (pcs V)[j]? = some u → w.cell? ((⟨g, 0, none⟩ : Addr).add j) = some u) (i : Nat) :
    ∀ (j : Nat) u, (pcs (V.take i))[j]? = some u → W.cell? ((⟨g, 0, none⟩ : Addr).add j) = some u := fun j u hu => by
  rw [← pcs_take] at hu
  have hj : (pcs V)[j]? = some u := by
    by_cases hlt : j < i * 3
    · rwa [List.getElem?_take_of_lt hlt] at hu
    · rw [List.getElem?_take_eq_none (by omega)] at hu; cases hu
  have h2 := h j u hj
  rw [Lib.addr_add] at h2 ⊢
  exact (F.cell (p := ⟨g, 0 + j, none⟩) hg (fun x => x)).trans h2
theorem src_drop {w W : World} {g : Nat} {V : PkV} (F : Fr NoB w W) (hg : g < w.heap.size) (h : ∀ (j : Nat) u, (pcs V)[j]? = some u → w.cell? ((⟨g, 0, none⟩ : Addr).add j) = some u) (i : Nat) :
    ∀ (j : Nat) u, (pcs (V.drop i))[j]? = some u → W.cell? ((⟨g, i * 3, none⟩ : Addr).add j) = some u := fun j u hu => by
  rw [← pcs_drop, List.getElem?_drop] at hu
  have h2 := h _ u hu
  rw [Lib.addr_add, Nat.zero_add] at h2
  rw [Lib.addr_add]
  exact (F.cell (p := ⟨g, i * 3 + j, none⟩) hg (fun x => x)).trans h2

set_option maxRecDepth 8000 in
set_option maxHeartbeats 3200000 in
theorem rtake_some {w : World} {p : Nat} {L : List (Lk × List UInt8)} {O : Nat → Prop} (h : RW w p L O) (hl : L.length ≤ 1000000000) {a b : Int} (n : Nat) (hai : (n : Int) ≤ 9223372036854775807) {l : List UInt8} (hb : (bag L (a, b))[n]? = some l) :
    Calls Try.prog 39 #[.pointer (some ⟨p, 0, none⟩), .int .i64 a, .int .i64 b, .int .i64 (n : Int)] w fun e w' => ∃ A c, e = .returned (.tuple #[.slice A l.length c, .bool true]) ∧ w'.ownsRow w.heap.size 5 1 (.slice A l.length c) l.length (bv l) ∧ RW w' p (dropL L (a, b) n) (fun g => O g ∨ New w w' g) ∧ Fr O w w' := by
  obtain ⟨v, V, h1, rfl⟩ := h
  rw [bytesV_len] at hl
  have hn : n < (bag V (a, b)).length := by have := (List.getElem?_eq_some_iff.1 hb).1; rwa [bag_bytes, List.length_map] at this
  obtain ⟨i, x, hpi, hi, hdr, hx, hbx⟩ := plI_some hn
  have hp := rplace_calls h1 a b n hl hai
  rw [hpi] at hp
  obtain ⟨i0, hi0, hz0, hz1, hz2⟩ := info_parts info_pk
  obtain ⟨y0, hy0, hx0, hx1, hx2⟩ := info_parts info_byte
  obtain ⟨g, c, hv⟩ := own_some h1.row (by omega)
  have hxl : x.l = l := by rw [bag_bytes, List.getElem?_map, hbx] at hb; simpa using hb
  subst hv
  obtain ⟨-, -, k2⟩ := h1.at_ hx
  have hc := h1.cell
  have hxp := h1.pk _ (List.mem_of_getElem? hx)
  have hxlen := h1.lens _ (List.mem_of_getElem? hx)
  obtain ⟨xA, xc, xl⟩ := x
  simp only at hxl
  subst hxl
  simp only [Pk.val] at k2 hxp hxlen
  have hcap : V.length ≤ c := by obtain ⟨_, _, e, h3, -⟩ := nown_form4 h1.row; cases e; exact h3
  have hrow := h1.row.cells (g := g) rfl
  have hpl : p < w.heap.size := Lib.lt_of_heap h1.box
  have hgl : g < w.heap.size := (h1.row.lt g rfl).2
  have H1 := Lib.hid h1
  have HX := Lib.hid hxp
  have HDR := Lib.hid hdr
  have HS1 := Lib.hid (fun W (F : Fr NoB w W) => src_take F hgl hrow i)
  have HS2 := Lib.hid (fun W (F : Fr NoB w W) => src_drop F hgl hrow (i + 1))
  have hn0 : ¬ (n : Int) < 0 := Int.not_lt.2 (Int.natCast_nonneg n)
  have hd1 : decide ((n : Int) < 0) = false := decide_eq_false hn0
  have hi00 : ¬ (i : Int) < 0 := Int.not_lt.2 (Int.natCast_nonneg i)
  have hd2 : decide ((i : Int) < 0) = false := decide_eq_false hi00
  have hil : (i : Int) < (V.length : Int) := Int.ofNat_lt.2 hi
  have hi1 := wrap_succ (Nat.le_trans (Nat.le_of_lt hi) hl)
  have hic := not_lt_cast (Nat.le_trans (Nat.le_of_lt hi) hcap)
  have hil2 := not_lt_succ hi
  have HL1 := Lib.hid (pcs_take_len hi)
  have HL2 := Lib.hid (pcs_drop_len (V := V) (i + 1))
  have HBD := Lib.hid (bd3 (Nat.le_trans (Nat.le_of_lt hi) hl))
  have HBE := Lib.hid (bd4 hi hl)
  have HXP := Lib.hid (fun g hg => h1.pkp _ (List.mem_of_getElem? hx) g hg)
  have HXB := Lib.hid (bd1 hxlen)
  have HNUM := Lib.hid (show _ ∧ _ ∧ _ ∧ _ from ⟨hl, hi, hcap, hxlen⟩)
  clear h1 hb hx hbx hpi hrow hdr hxp hl hi hcap hxlen hn hai hgl
  by_cases hce : c = i + 1
  · have HM0 := Lib.hid (no_more (c := c) hce HNUM.out.2.2.1)
    subst hce
    go_enter Try.func39, Try.ntmps39
    go_wp2_with (fail)
    refine hp.mono ?_
    rintro e w' ⟨rfl, rfl⟩
    go_wp2_with (first | (at_builtin; refine wpList_append_src _ rfl _ _ 82 rfl w.heap.size 86 i0 (.agg #[.int .i64 0, .int .i64 0, .slice none 0 0]) 3 40 Try.underlying82 hi0 hz0 hz1 hz2 rfl (by decide) (.slice none 0 0) 0 [] rfl (World.ownsRow_nil _ _ _ _) (some ⟨g, 0, none⟩) i _ (pcs (V.take i)) rfl HL1.out (fun _ => ⟨_, rfl, HS1.out _ (Fr.refl NoB w)⟩) (pcs_one _) HBD.out.1 HBD.out.2 (Nat.le_refl _) ?_; intro v1 W1 hA1; have f1 : Fr NoB w W1 := hA1.fr.mono (fun _ _ h => by simp [Value.ownBlock] at h); have hc1 := (f1.cell (p := ⟨p, 0, none⟩) hpl (fun x => x)).trans hc; have o1 := hA1.own; obtain ⟨A1, c1, rfl, -, -⟩ := nown_form4 o1; rw [Nat.zero_add, List.nil_append] at o1; have F1 := Lib.hid f1; have O1 := Lib.hid o1; rw [Nat.zero_add]; clear hA1 f1 o1) | (at_builtin; refine wpList_append_src _ rfl _ _ 82 rfl w.heap.size 86 i0 (.agg #[.int .i64 0, .int .i64 0, .slice none 0 0]) 3 40 Try.underlying82 hi0 hz0 hz1 hz2 rfl (by decide) (.slice A1 i c1) i (pcs (V.take i)) rfl O1.out _ (V.length - (i + 1)) _ (pcs (V.drop (i + 1))) rfl HL2.out (fun h0 => absurd h0 HM0.out) (pcs_one _) HBE.out.1 HBE.out.2 F1.out.size ?_; intro v2 W2 hA2; have f2 : Fr NoB w W2 := F1.out.trans hA2.fr (fun k hk hx => absurd (O1.out.lt k hx).1 (Nat.not_le.2 hk)); have hb2 := f2.at_ H1.out.box (fun x => x); have hc2 := (f2.cell (p := ⟨p, 0, none⟩) hpl (fun x => x)).trans hc; have hf2 : W2.frozen? ⟨p, 0, none⟩ = false := Lib.frozen_of_heap hb2 0; have o2 := hA2.own; obtain ⟨A2, c2, rfl, -, -⟩ := nown_form4 o2; have F2 := Lib.hid f2; have O2 := Lib.hid o2; have hR := RS.setv (v2 := .slice A2 (i + (V.length - (i + 1))) c2) (V' := V.take i ++ V.drop (i + 1)) H1.out F2.out (by rw [td_len HNUM.out.2.1, pcs_append]; exact O2.out) (fun y hy => (List.mem_append.1 hy).elim List.mem_of_mem_take List.mem_of_mem_drop); have R2 := Lib.hid hR.1; have G2 := Lib.hid hR.2; have om := World.ownsRow_made (W2.setCell ⟨p, 0, none⟩ (.slice A2 (i + (V.length - (i + 1))) c2)) (e := 5) (size := 1) (base := w.heap.size) #[] 0 hR.2.size (Nat.zero_le _) rfl; rw [show (W2.setCell ⟨p, 0, none⟩ (.slice A2 (i + (V.length - (i + 1))) c2)).heap.size = W2.heap.size by simp] at om; have OM := Lib.hid om; have hxx := ownBlock_kept HX.out (hR.2.alloc (.cells #[] 5)) (fun k hk hx => HXP.out k hk hx); have HXX := Lib.hid hxx; have HSX := Lib.hid ((own_rd hxx).srcs); clear hA2 f2 o2 hb2 hR om hxx) | (at_builtin; refine wpList_append_src _ rfl _ _ 22 rfl w.heap.size 5 y0 (.int .u8 0) 1 1 Try.underlying22 hy0 hx0 hx1 hx2 rfl (by decide) (.slice (some ⟨W2.heap.size, 0, none⟩) 0 0) 0 [] rfl OM.out xA xl.length xc (bv xl) rfl (Nat.mul_one _ ▸ bv_length xl) HSX.out (bv_one xl) HXB.out.1 HXB.out.2 (Nat.le_trans G2.out.size (by simp)) ?_; intro v3 W4 hA3) | fail)
    have o3 := hA3.own
    obtain ⟨A3, c3, rfl, -, -⟩ := nown_form4 o3
    rw [Nat.zero_add, List.nil_append] at o3
    have f3 : Fr (fun x => x = W2.heap.size) (W2.setCell ⟨p, 0, none⟩ (.slice A2 (i + (V.length - (i + 1))) c2)) W4 := ((Fr.refl _ _).alloc _).then (hA3.fr.mono fun x _ hx => (ob_eqS hx).symm)
    have O3 := Lib.hid o3
    have R4 := Lib.hid (R2.out.fr f3 (fun x hx e => by have h := R2.out.lt x hx; rw [show (W2.setCell ⟨p, 0, none⟩ (.slice A2 (i + (V.length - (i + 1))) c2)).heap.size = W2.heap.size by simp] at h; have e' : x = W2.heap.size := e; omega))
    have F4 := Lib.hid (G2.out.trans f3 (fun x hx e => absurd (show x = W2.heap.size from e) (Nat.ne_of_lt (Nat.lt_of_lt_of_le hx F2.out.size))))
    have HSZ := Lib.hid (Nat.le_trans (show W2.heap.size ≤ (W2.setCell ⟨p, 0, none⟩ (.slice A2 (i + (V.length - (i + 1))) c2)).heap.size by simp) f3.size)
    clear hA3 o3 f3
    rw [Nat.zero_add]
    go_ret2
    exact ⟨A3, c3, rfl, O3.out, ⟨_, _, R4.out.mono (fun x hx => hx.imp id fun h => ⟨h.1, Nat.lt_of_lt_of_le h.2 HSZ.out⟩) (fun x hx => hx.elim (fun h => Nat.lt_of_lt_of_le (H1.out.lt x h) F4.out.size) (fun h => h.2)), by rw [drop_bytes, HDR.out]⟩, F4.out.mono fun x _ e => by have e' : x = p := e; rw [e']; exact H1.out.op⟩
  · go_enter Try.func39, Try.ntmps39
    go_wp2_with (fail)
    refine hp.mono ?_
    rintro e w' ⟨rfl, rfl⟩
    go_wp2_with (first | (at_builtin; refine wpList_append_src _ rfl _ _ 82 rfl w.heap.size 86 i0 (.agg #[.int .i64 0, .int .i64 0, .slice none 0 0]) 3 40 Try.underlying82 hi0 hz0 hz1 hz2 rfl (by decide) (.slice none 0 0) 0 [] rfl (World.ownsRow_nil _ _ _ _) (some ⟨g, 0, none⟩) i c (pcs (V.take i)) rfl HL1.out (fun _ => ⟨_, rfl, HS1.out _ (Fr.refl NoB w)⟩) (pcs_one _) HBD.out.1 HBD.out.2 (Nat.le_refl _) ?_; intro v1 W1 hA1; have f1 : Fr NoB w W1 := hA1.fr.mono (fun _ _ h => by simp [Value.ownBlock] at h); have hc1 := (f1.cell (p := ⟨p, 0, none⟩) hpl (fun x => x)).trans hc; have o1 := hA1.own; obtain ⟨A1, c1, rfl, -, -⟩ := nown_form4 o1; rw [Nat.zero_add, List.nil_append] at o1; have F1 := Lib.hid f1; have O1 := Lib.hid o1; rw [Nat.zero_add]; clear hA1 f1 o1) | (at_builtin; refine wpList_append_src _ rfl _ _ 82 rfl w.heap.size 86 i0 (.agg #[.int .i64 0, .int .i64 0, .slice none 0 0]) 3 40 Try.underlying82 hi0 hz0 hz1 hz2 rfl (by decide) (.slice A1 i c1) i (pcs (V.take i)) rfl O1.out _ (V.length - (i + 1)) _ (pcs (V.drop (i + 1))) rfl HL2.out (fun _ => ⟨_, rfl, HS2.out _ F1.out⟩) (pcs_one _) HBE.out.1 HBE.out.2 F1.out.size ?_; intro v2 W2 hA2; have f2 : Fr NoB w W2 := F1.out.trans hA2.fr (fun k hk hx => absurd (O1.out.lt k hx).1 (Nat.not_le.2 hk)); have hb2 := f2.at_ H1.out.box (fun x => x); have hc2 := (f2.cell (p := ⟨p, 0, none⟩) hpl (fun x => x)).trans hc; have hf2 : W2.frozen? ⟨p, 0, none⟩ = false := Lib.frozen_of_heap hb2 0; have o2 := hA2.own; obtain ⟨A2, c2, rfl, -, -⟩ := nown_form4 o2; have F2 := Lib.hid f2; have O2 := Lib.hid o2; have hR := RS.setv (v2 := .slice A2 (i + (V.length - (i + 1))) c2) (V' := V.take i ++ V.drop (i + 1)) H1.out F2.out (by rw [td_len HNUM.out.2.1, pcs_append]; exact O2.out) (fun y hy => (List.mem_append.1 hy).elim List.mem_of_mem_take List.mem_of_mem_drop); have R2 := Lib.hid hR.1; have G2 := Lib.hid hR.2; have om := World.ownsRow_made (W2.setCell ⟨p, 0, none⟩ (.slice A2 (i + (V.length - (i + 1))) c2)) (e := 5) (size := 1) (base := w.heap.size) #[] 0 hR.2.size (Nat.zero_le _) rfl; rw [show (W2.setCell ⟨p, 0, none⟩ (.slice A2 (i + (V.length - (i + 1))) c2)).heap.size = W2.heap.size by simp] at om; have OM := Lib.hid om; have hxx := ownBlock_kept HX.out (hR.2.alloc (.cells #[] 5)) (fun k hk hx => HXP.out k hk hx); have HXX := Lib.hid hxx; have HSX := Lib.hid ((own_rd hxx).srcs); clear hA2 f2 o2 hb2 hR om hxx) | (at_builtin; refine wpList_append_src _ rfl _ _ 22 rfl w.heap.size 5 y0 (.int .u8 0) 1 1 Try.underlying22 hy0 hx0 hx1 hx2 rfl (by decide) (.slice (some ⟨W2.heap.size, 0, none⟩) 0 0) 0 [] rfl OM.out xA xl.length xc (bv xl) rfl (Nat.mul_one _ ▸ bv_length xl) HSX.out (bv_one xl) HXB.out.1 HXB.out.2 (Nat.le_trans G2.out.size (by simp)) ?_; intro v3 W4 hA3) | fail)
    have o3 := hA3.own
    obtain ⟨A3, c3, rfl, -, -⟩ := nown_form4 o3
    rw [Nat.zero_add, List.nil_append] at o3
    have f3 : Fr (fun x => x = W2.heap.size) (W2.setCell ⟨p, 0, none⟩ (.slice A2 (i + (V.length - (i + 1))) c2)) W4 := ((Fr.refl _ _).alloc _).then (hA3.fr.mono fun x _ hx => (ob_eqS hx).symm)
    have O3 := Lib.hid o3
    have R4 := Lib.hid (R2.out.fr f3 (fun x hx e => by have h := R2.out.lt x hx; rw [show (W2.setCell ⟨p, 0, none⟩ (.slice A2 (i + (V.length - (i + 1))) c2)).heap.size = W2.heap.size by simp] at h; have e' : x = W2.heap.size := e; omega))
    have F4 := Lib.hid (G2.out.trans f3 (fun x hx e => absurd (show x = W2.heap.size from e) (Nat.ne_of_lt (Nat.lt_of_lt_of_le hx F2.out.size))))
    have HSZ := Lib.hid (Nat.le_trans (show W2.heap.size ≤ (W2.setCell ⟨p, 0, none⟩ (.slice A2 (i + (V.length - (i + 1))) c2)).heap.size by simp) f3.size)
    clear hA3 o3 f3
    rw [Nat.zero_add]
    go_ret2
    exact ⟨A3, c3, rfl, O3.out, ⟨_, _, R4.out.mono (fun x hx => hx.imp id fun h => ⟨h.1, Nat.lt_of_lt_of_le h.2 HSZ.out⟩) (fun x hx => hx.elim (fun h => Nat.lt_of_lt_of_le (H1.out.lt x h) F4.out.size) (fun h => h.2)), by rw [drop_bytes, HDR.out]⟩, F4.out.mono fun x _ e => by have e' : x = p := e; rw [e']; exact H1.out.op⟩
end Go.Proofs.Ytmgkenbfjlahpaa

/-
  Ntq: the document's Send, Twice.
-/
import Derived.Test.YtmgkenbfjlahpaaNtp
namespace Go.Proofs.Ytmgkenbfjlahpaa
open Go.RowKit Go.WideMaps Go.Sort

def RW (w : World) (p : Nat) (L : List (Lk × List UInt8)) (O : Nat → Prop) : Prop := ∃ v V, RS w p v V O ∧ bytesV V = L
theorem RS.mono {w : World} {p : Nat} {v : Value} {V : PkV} {O O' : Nat → Prop} (h : RS w p v V O) (h1 : ∀ g, O g → O' g) (h2 : ∀ g, O' g → g < w.heap.size) : RS w p v V O' :=
  ⟨h.box, h.row, h.pk, h1 _ h.op, fun g hg => h1 g (h.ov g hg), fun x hx g hg => h1 g (h.ox x hx g hg), h2, h.lens⟩
theorem RW.fr {M : Nat → Prop} {w w' : World} {p : Nat} {L : List (Lk × List UInt8)} {O : Nat → Prop} (h : RW w p L O) (f : Fr M w w') (hm : ∀ g, O g → ¬ M g) : RW w' p L O := by
  obtain ⟨v, V, h1, h2⟩ := h; exact ⟨v, V, h1.fr f hm, h2⟩
theorem RW.lt {w : World} {p : Nat} {L : List (Lk × List UInt8)} {O : Nat → Prop} (h : RW w p L O) : ∀ g, O g → g < w.heap.size := by
  obtain ⟨v, V, h1, h2⟩ := h; exact h1.lt
theorem info_pk : (Try.prog.info? 86).map (fun i => (i.zero, i.size, i.bytes)) = some (some (.agg #[.int .i64 0, .int .i64 0, .slice none 0 0]), 3, 40) := by kernel_rfl
theorem bytesV_append (a b : PkV) : bytesV (a ++ b) = bytesV a ++ bytesV b := by simp [bytesV]
theorem bytesV_len (V : PkV) : (bytesV V).length = V.length := by simp [bytesV]

theorem ownBlock_kept2 {w w' : World} {M : Nat → Prop} {base e size n : Nat} {v : Value} {xs : List Value} (h : w.ownsRow base e size v n xs) (f : Fr M w w') (hm : ∀ g, v.ownBlock = some g → ¬ M g) : w'.ownsRow base e size v n xs :=
  own_keep h fun g hg => f.block g (h.lt g hg).2 (hm g hg)
theorem ob_eqS {J n c g : Nat} (h : (Value.slice (some ⟨J, 0, none⟩) n c).ownBlock = some g) : J = g := by simpa [Value.ownBlock] using h
/-- One packet more in the document's row. -/
theorem RS.push {M : Nat → Prop} {w w' : World} {p : Nat} {v v' : Value} {V : PkV} {O : Nat → Prop} (h : RS w p v V O) {x : Lk × Pk} (f : Fr M w w') (hM : ∀ g, M g → g = p ∨ v.ownBlock = some g) (hb : w'.heap[p]? = some (.cells #[v'] 84 (0, 0)))
    (ho : w'.ownsRow 0 86 3 v' (V.length + 1) (pcs V ++ pc x)) (hv : ∀ g, v'.ownBlock = some g → v.ownBlock = some g ∨ w.heap.size ≤ g) (hx : w'.ownsRow 0 5 1 x.2.val x.2.l.length (bv x.2.l)) (hxn : ∀ g, x.2.val.ownBlock = some g → w.heap.size ≤ g) (hl : x.2.l.length ≤ 1048576) :
    RS w' p v' (V ++ [x]) (fun g => O g ∨ New w w' g) ∧ Fr O w w' := by
  have hne : ∀ y ∈ V, ∀ g, y.2.val.ownBlock = some g → ¬ M g := fun y hy g hg hm => by
    have h1 := h.pk y hy
    rcases h1.2 with ⟨e, _⟩ | ⟨g1, cap, cur, e, _, hh, _⟩
    · rw [e] at hg; cases hg
    rw [e] at hg
    obtain rfl : g1 = g := by simpa [Value.ownBlock] using hg
    rcases hM g1 hm with e2 | e2
    · rw [e2, h.box] at hh
      simp at hh
    · rcases h.row.2 with ⟨e3, _⟩ | ⟨g2, cap2, cur2, e3, _, hh2, _⟩
      · rw [e3] at e2; cases e2
      · rw [e3] at e2
        obtain rfl : g2 = g1 := by simpa [Value.ownBlock] using e2
        rw [hh] at hh2
        simp at hh2
  refine ⟨⟨hb, by rw [List.length_append, pcs_append]; simpa [pcs] using ho, fun y hy => ?_, .inl h.op, fun g hg => ?_, fun y hy g hg => ?_, fun g hg => ?_, fun y hy => ?_⟩, f.mono fun g _ hg => ?_⟩
  · rcases List.mem_append.1 hy with hy | hy
    · exact ownBlock_kept (h.pk y hy) f (hne y hy)
    · rw [List.mem_singleton.1 hy]; exact hx
  · rcases hv g hg with e | e
    · exact .inl (h.ov g e)
    · exact .inr ⟨e, (ho.lt g hg).2⟩
  · rcases List.mem_append.1 hy with hy | hy
    · exact .inl (h.ox y hy g hg)
    · rw [List.mem_singleton.1 hy] at hg
      exact .inr ⟨hxn g hg, (hx.lt g hg).2⟩
  · rcases hg with hg | hg
    · exact Nat.lt_of_lt_of_le (h.lt g hg) f.size
    · exact hg.2
  · rcases List.mem_append.1 hy with hy | hy
    · exact h.lens y hy
    · rw [List.mem_singleton.1 hy]; exact hl
  · rcases hM g hg with e | e
    · exact e ▸ h.op
    · exact h.ov g e

set_option maxRecDepth 8000 in
set_option maxHeartbeats 3200000 in
theorem rsend_calls {w : World} {p : Nat} {L : List (Lk × List UInt8)} {O : Nat → Prop} (h : RW w p L O) (hl : L.length ≤ 1000000000) (a b : Int) (A : Option Addr) (l : List UInt8) (c lo hi : Nat) (hr : Rd w lo hi A l) :
    Calls Try.prog 38 #[.pointer (some ⟨p, 0, none⟩), .int .i64 a, .int .i64 b, .slice A l.length c] w fun e w' => e = .returned (.bool (sendOk L (a, b) l)) ∧ RW w' p (sendL L (a, b) l) (fun g => O g ∨ New w w' g) ∧ Fr O w w' := by
  have hno : sendOk L (a, b) l = false → RW w p (sendL L (a, b) l) (fun g => O g ∨ New w w g) ∧ Fr O w w := fun e => by
    refine ⟨?_, Fr.refl _ _⟩
    unfold sendL
    rw [e, if_neg (by simp)]
    obtain ⟨v, V, h1, h2⟩ := h
    exact ⟨v, V, h1.mono (fun g hg => .inl hg) (fun g hg => by rcases hg with hg | hg; exact h1.lt g hg; exact hg.2), h2⟩
  obtain ⟨v, V, h1, rfl⟩ := h
  rw [bytesV_len] at hl
  obtain ⟨i0, hi0, hz0, hz1, hz2⟩ := info_parts info_pk
  obtain ⟨y0, hy0, hx0, hx1, hx2⟩ := info_parts info_byte
  have hb := rcount_calls h1 a b hl
  have hlen : (bag (bytesV V) (a, b)).length = (bag V (a, b)).length := by rw [bag_bytes, List.length_map]
  by_cases h32 : 32 ≤ (bag V (a, b)).length
  · have hs : sendOk (bytesV V) (a, b) l = false := by unfold sendOk; rw [hlen, decide_eq_false (by omega)]; rfl
    have HN := Lib.hid (hno hs)
    rw [hs]
    have h32i : (32 : Int) ≤ ((bag V (a, b)).length : Int) := by omega
    clear h1 hno hlen hs h32 hr
    generalize (bag V (a, b)).length = n at hb h32i ⊢
    go_enter Try.func38, Try.ntmps38
    go_wp2_with (first | ((with_reducible refine hb.mono ?_); rintro e w' ⟨rfl, rfl⟩))
    go_ret
    exact ⟨rfl, HN.out⟩
  have h32i : ¬ (32 : Int) ≤ ((bag V (a, b)).length : Int) := by omega
  by_cases hbig : 1048576 < l.length
  · have hs : sendOk (bytesV V) (a, b) l = false := by unfold sendOk; rw [decide_eq_false (show ¬ l.length ≤ 1048576 by omega), Bool.and_false]
    have HN := Lib.hid (hno hs)
    rw [hs]
    have hbi : (1048576 : Int) < (l.length : Int) := by omega
    clear h1 hno hlen hs h32 hr hbig
    generalize (bag V (a, b)).length = n at hb h32i ⊢
    generalize l.length = m at hbi ⊢
    go_enter Try.func38, Try.ntmps38
    go_wp2_with (first | ((with_reducible refine hb.mono ?_); rintro e w' ⟨rfl, rfl⟩))
    go_ret
    exact ⟨rfl, HN.out⟩
  have hbi : ¬ (1048576 : Int) < (l.length : Int) := by omega
  have hs : sendOk (bytesV V) (a, b) l = true := by unfold sendOk; rw [hlen, decide_eq_true (show _ < 32 by omega), decide_eq_true (show l.length ≤ 1048576 by omega)]; rfl
  have hsL : sendL (bytesV V) (a, b) l = bytesV V ++ [((a, b), l)] := by unfold sendL; rw [hs, if_pos rfl]
  rw [hs, hsL]
  obtain ⟨A0, c0, rfl, -, -⟩ := nown_form4 h1.row
  have H1 := Lib.hid h1
  have HL := Lib.hid hbig
  have HR := Lib.hid hr
  have hcd : w.drew.cell? ⟨p, 0, none⟩ = some (.slice A0 V.length c0) := h1.cell
  have hpl : p < w.heap.size := Lib.lt_of_heap h1.box
  clear h1 hno hlen hs hsL hbig h32 hr
  generalize (bag V (a, b)).length = nb at hb h32i
  go_enter Try.func38, Try.ntmps38
  go_wp2_with (first | ((with_reducible refine hb.mono ?_); rintro e w' ⟨rfl, rfl⟩) | fail)
  refine wp_region_any (by kernel_rfl) (wpAny_of_J (S := fun j X => j ≠ 15 → X.cell? ⟨p, 0, none⟩ = some (.slice A0 V.length c0)) _ _ _ _ ?_)
  show wpAnyJ _ _ _ _ _ _ _ _ w.drew
  simp only [List.size_toArray, List.length_cons, List.length_nil, Nat.reduceAdd]
  refine J_take (i := 0) (v := ?_) (fun X : World => X.cell? ⟨p, 0, none⟩ = some (.slice A0 V.length c0)) (fun j => decide (j ≠ 15)) (by simp only [List.getElem?_toArray, List.getElem?_cons_zero]; rfl) (by kernel_rfl) (by kernel_rfl) (by kernel_rfl) (by kernel_rfl) (by exact fun _ _ _ h => h) (fun j X hm h => h (of_decide_eq_true hm)) (fun X h _ => h) hcd (Or.inl ⟨by rfl, ?_⟩) ?_
  rotate_left
  · intro X hX; go_simp; (try with_reducible rfl)
  try simp only [Act.put, List.setIfInBounds_toArray, List.set_cons_zero, List.set_cons_succ]
  refine J_take (i := 1) (v := ?_) (fun X : World => X.cell? ⟨p, 0, none⟩ = some (.slice A0 V.length c0)) (fun j => decide (j ≠ 15)) (by simp only [List.getElem?_toArray, List.getElem?_cons_succ, List.getElem?_cons_zero]; rfl) (by kernel_rfl) (by kernel_rfl) (by kernel_rfl) (by kernel_rfl) (by exact fun _ _ _ h => h) (fun j X hm h => h (of_decide_eq_true hm)) (fun X h _ => h) hcd (Or.inl ⟨by rfl, ?_⟩) ?_
  rotate_left
  · intro X hX; go_simp; (try with_reducible rfl)
  try simp only [Act.put, List.setIfInBounds_toArray, List.set_cons_zero, List.set_cons_succ]
  refine J_take (i := 2) (v := ?_) (fun X : World => X.cell? ⟨p, 0, none⟩ = some (.slice A0 V.length c0)) (fun j => decide (j ≠ 15)) (by simp only [List.getElem?_toArray, List.getElem?_cons_succ, List.getElem?_cons_zero]; rfl) (by kernel_rfl) (by kernel_rfl) (by kernel_rfl) (by kernel_rfl) (by exact fun _ _ _ h => h) (fun j X hm h => h (of_decide_eq_true hm)) (fun X h _ => h) hcd (Or.inl ⟨by rfl, ?_⟩) ?_
  rotate_left
  · intro X hX; go_simp; (try with_reducible rfl)
  try simp only [Act.put, List.setIfInBounds_toArray, List.set_cons_zero, List.set_cons_succ]
  refine J_take (i := 3) (v := ?_) (fun X : World => X.cell? ⟨p, 0, none⟩ = some (.slice A0 V.length c0)) (fun j => decide (j ≠ 15)) (by simp only [List.getElem?_toArray, List.getElem?_cons_succ, List.getElem?_cons_zero]; rfl) (by kernel_rfl) (by kernel_rfl) (by kernel_rfl) (by kernel_rfl) (by exact fun _ _ _ h => h) (fun j X hm h => h (of_decide_eq_true hm)) (fun X h _ => h) hcd (Or.inl ⟨by rfl, ?_⟩) ?_
  rotate_left
  · intro X hX; go_simp; (try with_reducible rfl)
  try simp only [Act.put, List.setIfInBounds_toArray, List.set_cons_zero, List.set_cons_succ]
  refine J_take (i := 4) (v := ?_) (fun X : World => X.cell? ⟨p, 0, none⟩ = some (.slice A0 V.length c0)) (fun j => decide (j ≠ 15)) (by simp only [List.getElem?_toArray, List.getElem?_cons_succ, List.getElem?_cons_zero]; rfl) (by kernel_rfl) (by kernel_rfl) (by kernel_rfl) (by kernel_rfl) (by exact fun _ _ _ h => h) (fun j X hm h => h (of_decide_eq_true hm)) (fun X h _ => h) hcd (Or.inl ⟨by rfl, ?_⟩) ?_
  rotate_left
  · intro X hX; go_simp; (try with_reducible rfl)
  try simp only [Act.put, List.setIfInBounds_toArray, List.set_cons_zero, List.set_cons_succ]
  refine J_take (i := 5) (v := ?_) (fun X : World => X.cell? ⟨p, 0, none⟩ = some (.slice A0 V.length c0)) (fun j => decide (j ≠ 15)) (by simp only [List.getElem?_toArray, List.getElem?_cons_succ, List.getElem?_cons_zero]; rfl) (by kernel_rfl) (by kernel_rfl) (by kernel_rfl) (by kernel_rfl) (by exact fun _ _ _ h => h) (fun j X hm h => h (of_decide_eq_true hm)) (fun X h _ => h) hcd (Or.inl ⟨by rfl, ?_⟩) ?_
  rotate_left
  · intro X hX; go_simp; (try with_reducible rfl)
  try simp only [Act.put, List.setIfInBounds_toArray, List.set_cons_zero, List.set_cons_succ]
  refine J_take (i := 6) (v := ?_) (fun X : World => X.cell? ⟨p, 0, none⟩ = some (.slice A0 V.length c0)) (fun j => decide (j ≠ 15)) (by simp only [List.getElem?_toArray, List.getElem?_cons_succ, List.getElem?_cons_zero]; rfl) (by kernel_rfl) (by kernel_rfl) (by kernel_rfl) (by kernel_rfl) (by exact fun _ _ _ h => h) (fun j X hm h => h (of_decide_eq_true hm)) (fun X h _ => h) hcd (Or.inl ⟨by rfl, ?_⟩) ?_
  rotate_left
  · intro X hX; go_simp; (try with_reducible rfl)
  try simp only [Act.put, List.setIfInBounds_toArray, List.set_cons_zero, List.set_cons_succ]
  refine J_take (i := 8) (v := ?_) (fun X : World => X.cell? ⟨p, 0, none⟩ = some (.slice A0 V.length c0)) (fun j => decide (j ≠ 15)) (by simp only [List.getElem?_toArray, List.getElem?_cons_succ, List.getElem?_cons_zero]; rfl) (by kernel_rfl) (by kernel_rfl) (by kernel_rfl) (by kernel_rfl) (by exact fun _ _ _ h => h) (fun j X hm h => h (of_decide_eq_true hm)) (fun X h _ => h) hcd (Or.inl ⟨by rfl, ?_⟩) ?_
  rotate_left
  · intro X hX; go_simp; (try with_reducible rfl)
  try simp only [Act.put, List.setIfInBounds_toArray, List.set_cons_zero, List.set_cons_succ]
  refine J_all (rs := [7]) (by kernel_rfl) (by simp) (fun i hi => ?_)
  simp only [List.mem_cons, List.not_mem_nil, or_false] at hi
  subst hi
  refine J_oneH (by simp only [List.getElem?_toArray, List.getElem?_cons_succ, List.getElem?_cons_zero]; rfl) rfl (fun K hK => ?_)
  go_simp
  have F1 := Lib.hid ((Fr.refl NoB w).drew.alloc (.cells #[] 5))
  have hc1 : (w.drew.alloc (.cells #[] 5)).cell? ⟨p, 0, none⟩ = some (.slice A0 V.length c0) := (F1.out.cell (p := ⟨p, 0, none⟩) hpl (fun x => x)).trans hcd
  have o1 := World.ownsRow_made w.drew (e := 5) (size := 1) (base := w.heap.size) #[] 0 (Nat.le_refl _) (Nat.zero_le _) rfl
  try simp only [Act.put, List.setIfInBounds_toArray, List.set_cons_zero, List.set_cons_succ]
  refine hK.out _ _ ⟨fun _ => hc1, ?_⟩
  clear hK K
  refine J_all (rs := [9]) (by kernel_rfl) (by simp) (fun i hi => ?_)
  simp only [List.mem_cons, List.not_mem_nil, or_false] at hi
  subst hi
  refine J_oneH (by simp only [List.getElem?_toArray, List.getElem?_cons_succ, List.getElem?_cons_zero]; rfl) rfl (fun K hK => ?_)
  refine wp_append_src _ (.tmp 26) (.tmp 27) 22 rfl w.heap.size 5 y0 (.int .u8 0) 1 1 Try.underlying22 hy0 hx0 hx1 hx2 rfl (by decide) _ 0 [] rfl o1 A l.length c (bv l) rfl (by simp) (fun h0 => by obtain ⟨ad, e1, e2⟩ := HR.out.srcs h0; exact ⟨ad, e1, fun j u hu => Lib.cell?_alloc_some _ (e2 j u hu)⟩) (bv_one l) (by unfold maxLen; omega) (by omega) (by simp) ?_
  intro v9 W2 hA9
  have hown9 := hA9.own
  have F2 := Lib.hid (F1.out.trans hA9.fr (fun k hk hx => absurd (ob_eqS hx) (by simp only [World.drew] at *; omega)))
  obtain ⟨xA, xc, rfl, -, -⟩ := nown_form4 hown9
  rw [Nat.zero_add, List.nil_append] at hown9
  have O9 := Lib.hid hown9
  have hc2 : W2.cell? ⟨p, 0, none⟩ = some (.slice A0 V.length c0) := (F2.out.cell (p := ⟨p, 0, none⟩) hpl (fun x => x)).trans hcd
  rw [Nat.zero_add]
  clear hA9 hown9 o1 hc1
  try simp only [Act.put, List.setIfInBounds_toArray, List.set_cons_zero, List.set_cons_succ]
  refine hK.out _ _ ⟨fun _ => hc2, ?_⟩
  clear hK K
  refine J_all (rs := [10]) (by kernel_rfl) (by simp) (fun i hi => ?_)
  simp only [List.mem_cons, List.not_mem_nil, or_false] at hi
  subst hi
  refine J_oneH (by simp only [List.getElem?_toArray, List.getElem?_cons_succ, List.getElem?_cons_zero]; rfl) rfl (fun K hK => ?_)
  go_simp
  try simp only [Act.put, List.setIfInBounds_toArray, List.set_cons_zero, List.set_cons_succ]
  refine hK.out _ _ ⟨fun _ => hc2, ?_⟩
  clear hK K
  refine J_all (rs := [11]) (by kernel_rfl) (by simp) (fun i hi => ?_)
  simp only [List.mem_cons, List.not_mem_nil, or_false] at hi
  subst hi
  refine J_oneH (by simp only [List.getElem?_toArray, List.getElem?_cons_succ, List.getElem?_cons_zero]; rfl) rfl (fun K hK => ?_)
  go_simp
  have F3 := Lib.hid (F2.out.alloc (.cells #[.int .i64 a, .int .i64 b, .slice xA l.length xc] 86))
  have O3 := Lib.hid (O9.out.alloc (.cells #[.int .i64 a, .int .i64 b, .slice xA l.length xc] 86))
  have hn3 := World.news_of_block (heap_alloc_new W2 (.cells #[.int .i64 a, .int .i64 b, .slice xA l.length xc] 86))
  have hc3 : (W2.alloc (.cells #[.int .i64 a, .int .i64 b, .slice xA l.length xc] 86)).cell? ⟨p, 0, none⟩ = some (.slice A0 V.length c0) := (F3.out.cell (p := ⟨p, 0, none⟩) hpl (fun x => x)).trans hcd
  try simp only [Act.put, List.setIfInBounds_toArray, List.set_cons_zero, List.set_cons_succ]
  refine hK.out _ _ ⟨fun _ => hc3, ?_⟩
  clear hK K
  refine J_all (rs := [12]) (by kernel_rfl) (by simp) (fun i hi => ?_)
  simp only [List.mem_cons, List.not_mem_nil, or_false] at hi
  subst hi
  refine J_oneH (by simp only [List.getElem?_toArray, List.getElem?_cons_succ, List.getElem?_cons_zero]; rfl) rfl (fun K hK => ?_)
  refine wp_append_src _ (.tmp 23) (.tmp 30) 82 rfl 0 86 i0 (.agg #[.int .i64 0, .int .i64 0, .slice none 0 0]) 3 40 Try.underlying82 hi0 hz0 hz1 hz2 rfl (by decide) (.slice A0 V.length c0) V.length (pcs V) rfl (own_step H1.out.row F3.out) _ 1 1 (pc ((a, b), ⟨xA, xc, l⟩)) rfl rfl (fun _ => ⟨_, rfl, hn3⟩) (by intro u hu; simp only [pc, List.mem_cons, List.not_mem_nil, or_false] at hu; rcases hu with rfl | rfl | rfl <;> rfl) (by unfold maxLen; omega) (by omega) (Nat.zero_le _) ?_
  intro v12 W4 hA
  have fA : Fr (fun g => g = p ∨ (Value.slice A0 V.length c0).ownBlock = some g) w W4 := (F3.out.no.then (hA.fr.mono fun g _ hg => .inr hg))
  have hb4 : W4.heap[p]? = some (.cells #[.slice A0 V.length c0] 84 (0, 0)) := by
    have h3 := F3.out.at_ H1.out.box (fun x => x)
    refine hA.fr.at_ h3 (fun hx => ?_)
    rcases H1.out.row.2 with ⟨e3, _⟩ | ⟨g2, cap2, cur2, e3, _, hh2, _⟩
    · rw [e3] at hx; cases hx
    · rw [e3] at hx
      obtain rfl : g2 = p := by simpa [Value.ownBlock] using hx
      rw [H1.out.box] at hh2
      simp at hh2
  have hat : ∀ g, v12.ownBlock = some g → (Value.slice A0 V.length c0).ownBlock = some g ∨ w.heap.size ≤ g := fun g hg => by
    rcases hA.at_ with e | e
    · exact .inl (e ▸ hg)
    · rw [e] at hg; cases hg; exact .inr F3.out.size
  have hx4 : W4.ownsRow w.heap.size 5 1 (.slice xA l.length xc) l.length (bv l) := ownBlock_kept2 O3.out hA.fr (fun g hg hx => by have h1 := (O3.out.lt g hg).1; have h2 := (H1.out.row.lt g hx).2; omega)
  have hown := hA.own
  obtain ⟨A4, c4, rfl, -, -⟩ := nown_form4 hown
  have FA := Lib.hid fA
  have HAT := Lib.hid hat
  have HO := Lib.hid hown
  have HX4 := Lib.hid hx4
  have hc4 : W4.cell? ⟨p, 0, none⟩ = some (.slice A0 V.length c0) := by rw [Lib.cell_of_heap hb4]; rfl
  have hf4 : W4.frozen? ⟨p, 0, none⟩ = false := Lib.frozen_of_heap hb4 0
  have HB4 := Lib.hid hb4
  clear fA hat hown hx4 hb4 hA hc3 hn3 hc2
  try simp only [Act.put, List.setIfInBounds_toArray, List.set_cons_zero, List.set_cons_succ]
  refine hK.out _ _ ⟨fun _ => hc4, ?_⟩
  clear hK K
  refine J_all (rs := [13]) (by kernel_rfl) (by simp) (fun i hi => ?_)
  simp only [List.mem_cons, List.not_mem_nil, or_false] at hi
  subst hi
  refine J_oneH (by simp only [List.getElem?_toArray, List.getElem?_cons_succ, List.getElem?_cons_zero]; rfl) rfl (fun K hK => ?_)
  go_simp
  try simp only [Act.put, List.setIfInBounds_toArray, List.set_cons_zero, List.set_cons_succ]
  refine hK.out _ _ ⟨fun _ => hc4, ?_⟩
  clear hK K
  refine J_all (rs := [14]) (by kernel_rfl) (by simp) (fun i hi => ?_)
  simp only [List.mem_cons, List.not_mem_nil, or_false] at hi
  subst hi
  refine J_oneH (by simp only [List.getElem?_toArray, List.getElem?_cons_succ, List.getElem?_cons_zero]; rfl) rfl (fun K hK => ?_)
  go_simp
  try simp only [Act.put, List.setIfInBounds_toArray, List.set_cons_zero, List.set_cons_succ]
  refine hK.out _ _ ⟨fun _ => hc4, ?_⟩
  clear hK K
  refine J_all (rs := [15]) (by kernel_rfl) (by simp) (fun i hi => ?_)
  simp only [List.mem_cons, List.not_mem_nil, or_false] at hi
  subst hi
  refine J_oneH (by simp only [List.getElem?_toArray, List.getElem?_cons_succ, List.getElem?_cons_zero]; rfl) rfl (fun K hK => ?_)
  go_simp
  try simp only [Act.put, List.setIfInBounds_toArray, List.set_cons_zero, List.set_cons_succ]
  refine hK.out _ _ ⟨fun h => absurd rfl h, ?_⟩
  clear hK K
  refine J_done (by kernel_rfl) ?_
  go_wp2
  go_ret
  have hpv : ∀ g, (Value.slice A4 (V.length + 1) c4).ownBlock = some g → g ≠ p := fun g hg e => by
    subst e
    rcases HO.out.2 with ⟨e3, _⟩ | ⟨g2, cap2, cur2, e3, _, hh2, _⟩
    · rw [e3] at hg; cases hg
    · rw [e3] at hg
      obtain rfl : g2 = g := by simpa [Value.ownBlock] using hg
      rw [HB4.out] at hh2
      simp at hh2
  have hs := RS.push (M := fun g => g = p ∨ (Value.slice A0 V.length c0).ownBlock = some g) (w' := W4.setCell ⟨p, 0, none⟩ (.slice A4 (V.length + 1) c4)) (v' := .slice A4 (V.length + 1) c4) (x := ((a, b), ⟨xA, xc, l⟩)) H1.out (FA.out.setCell (p := ⟨p, 0, none⟩) (fun _ => .inl rfl) _) (fun g hg => hg)
    (by simp [World.setCell, Array.getElem?_modify, HB4.out])
    (own_keep HO.out fun g hg => Below.heap_setCell W4 ⟨p, 0, none⟩ _ g (hpv g hg)) HAT.out
    (nown_base (own_keep HX4.out fun g hg => Below.heap_setCell W4 ⟨p, 0, none⟩ _ g (by have := (HX4.out.lt g hg).1; intro e; have e' : g = p := e; omega)) (Nat.zero_le _))
    (fun g hg => (HX4.out.lt g hg).1) (by have := HL.out; show l.length ≤ _; omega)
  exact ⟨rfl, ⟨_, _, hs.1, by rw [bytesV_append]; rfl⟩, hs.2⟩

theorem plI_none {V : PkV} {k : Lk} {n : Nat} (h : (bag V k).length ≤ n) : plI V k n = -1 := by unfold plI; rw [(place_none V k n).2 h]
theorem plI_some {V : PkV} {k : Lk} {n : Nat} (h : n < (bag V k).length) : ∃ (i : Nat) (x : Pk), plI V k n = (i : Int) ∧ i < V.length ∧ dropL V k n = V.take i ++ V.drop (i + 1) ∧ V[i]? = some (k, x) ∧ (bag V k)[n]? = some x := by
  cases hp : placeL V k n with
  | none => have := (place_none V k n).1 hp; omega
  | some i =>
    obtain ⟨hi, hd, x, hx, hb⟩ := place_some V k n i hp
    exact ⟨i, x, by unfold plI; rw [hp], hi, hd, hx, hb⟩

set_option maxHeartbeats 1600000 in
theorem rtwice_none {w : World} {p : Nat} {L : List (Lk × List UInt8)} {O : Nat → Prop} (h : RW w p L O) (hl : L.length ≤ 1000000000) {a b : Int} (at' : Int) (hai : at' ≤ 9223372036854775807) (ho : at' < 0 ∨ ((bag L (a, b)).length : Int) ≤ at') :
    Calls Try.prog 40 #[.pointer (some ⟨p, 0, none⟩), .int .i64 a, .int .i64 b, .int .i64 at'] w fun e w' => e = .returned (.bool false) ∧ w = w' := by
  obtain ⟨v, V, h1, rfl⟩ := h
  rw [bytesV_len] at hl
  rw [bag_bytes, List.length_map] at ho
  by_cases hneg : at' < 0
  · have hp := rplace_any h1 a b at' hl
    have hneg' : ¬ 0 ≤ at' := by omega
    have hd1 : decide (0 ≤ at') = false := decide_eq_false hneg'
    clear h1 ho hneg
    go_enter Try.func40, Try.ntmps40
    go_wp2_with (fail)
    refine hp.mono ?_
    rintro e w' ⟨⟨r, rfl⟩, rfl⟩
    go_wp2
    go_ret
    exact ⟨rfl, rfl⟩
  · obtain ⟨n, rfl⟩ : ∃ n : Nat, at' = (n : Int) := ⟨at'.toNat, by omega⟩
    have hp := rplace_calls h1 a b n hl hai
    rw [plI_none (by have := ho.resolve_left hneg; omega)] at hp
    have hn0 : (0 : Int) ≤ (n : Int) := by omega
    have hd1 : decide ((0 : Int) ≤ (n : Int)) = true := decide_eq_true hn0
    clear h1 ho hneg
    go_enter Try.func40, Try.ntmps40
    go_wp2_with (fail)
    refine hp.mono ?_
    rintro e w' ⟨rfl, rfl⟩
    go_wp2
    go_ret
    exact ⟨rfl, rfl⟩

set_option maxHeartbeats 1600000 in
theorem rtwice_some {w : World} {p : Nat} {L : List (Lk × List UInt8)} {O : Nat → Prop} (h : RW w p L O) (hl : L.length ≤ 1000000000) {a b : Int} (n : Nat) (hai : (n : Int) ≤ 9223372036854775807) {l : List UInt8} (hb : (bag L (a, b))[n]? = some l) :
    Calls Try.prog 40 #[.pointer (some ⟨p, 0, none⟩), .int .i64 a, .int .i64 b, .int .i64 (n : Int)] w fun e w' => e = .returned (.bool (sendOk L (a, b) l)) ∧ RW w' p (sendL L (a, b) l) (fun g => O g ∨ New w w' g) ∧ Fr O w w' := by
  have hsend := fun (A : Option Addr) (c lo hi : Nat) (hr : Rd w lo hi A l) => rsend_calls h hl a b A l c lo hi hr
  obtain ⟨v, V, h1, rfl⟩ := h
  rw [bytesV_len] at hl
  have hn : n < (bag V (a, b)).length := by have := (List.getElem?_eq_some_iff.1 hb).1; rwa [bag_bytes, List.length_map] at this
  obtain ⟨i, x, hpi, hi, -, hx, hbx⟩ := plI_some hn
  have hp := rplace_calls h1 a b n hl hai
  rw [hpi] at hp
  obtain ⟨g, c, hv⟩ := own_some h1.row (by omega)
  have hxl : x.l = l := by rw [bag_bytes, List.getElem?_map, hbx] at hb; simpa using hb
  subst hv
  obtain ⟨-, -, k2⟩ := h1.at_ hx
  have hc := h1.cell
  obtain ⟨xA, xc, xl⟩ := x
  simp only at hxl
  subst hxl
  simp only [Pk.val] at k2
  have hs := hsend xA xc _ _ (own_rd (h1.pk _ (List.mem_of_getElem? hx)))
  have hn0 : (0 : Int) ≤ (n : Int) := by omega
  have hi0 : (0 : Int) ≤ (i : Int) := by omega
  have hil : (i : Int) < (V.length : Int) := by omega
  have hd1 : decide ((0 : Int) ≤ (n : Int)) = true := decide_eq_true hn0
  have hd2 : decide ((0 : Int) ≤ (i : Int)) = true := decide_eq_true hi0
  clear h1 hsend hb hx hbx hpi
  go_enter Try.func40, Try.ntmps40
  go_wp2_with (fail)
  refine hp.mono ?_
  rintro e w' ⟨rfl, rfl⟩
  go_wp2_with (fail)
  refine hs.mono ?_
  rintro e w' ⟨rfl, hN, hf⟩
  go_wp2
  go_ret
  exact ⟨rfl, hN, hf⟩
end Go.Proofs.Ytmgkenbfjlahpaa

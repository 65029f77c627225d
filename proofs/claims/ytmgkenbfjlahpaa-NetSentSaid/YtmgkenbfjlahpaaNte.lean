/-
  Nte: New, bag, Count, Send, Clear.
-/
import Derived.Test.YtmgkenbfjlahpaaNtc
import Derived.Test.YtmgkenbfjlahpaaKit
import Derived.Shelf.Lay
import Derived.Shelf.Bytes.SlClone
import Derived.StillTailTactics
import Derived.Deep.RegionHeld3
namespace Go.Proofs.Ytmgkenbfjlahpaa
open Go.RowKit Go.WideMaps

theorem nown_form4 {w : World} {base e n size : Nat} {v : Value} {xs : List Value} (h : w.ownsRow base e size v n xs) : ∃ A c, v = .slice A n c ∧ n ≤ c ∧ c ≤ maxLen := by
  rcases h.2 with ⟨rfl, rfl⟩ | ⟨g, cap, cur, rfl, _, _, h1, h2, _⟩
  · exact ⟨none, 0, rfl, Nat.le_refl _, Nat.zero_le _⟩
  · exact ⟨_, cap, rfl, h1, h2⟩

theorem NetS.cell {w : World} {p bm N : Nat} {rb : Lk → Value} {V : PkV} (h : NetS w p bm N rb V) : w.cell? ⟨p, 0, none⟩ = some (.map (some bm)) := by
  rw [Lib.cell_of_heap h.box]; rfl
theorem own_some {w : World} {base e size n : Nat} {v : Value} {xs : List Value} (h : w.ownsRow base e size v n xs) (hn : 0 < n) : ∃ g c, v = .slice (some ⟨g, 0, none⟩) n c := by
  rcases h.2 with ⟨_, h0⟩ | ⟨g', cap', cur, hv, _⟩
  · omega
  · exact ⟨g', cap', hv⟩
theorem nown_base {w : World} {base base' e size n : Nat} {v : Value} {xs : List Value} (h : w.ownsRow base e size v n xs) (hb : base' ≤ base) : w.ownsRow base' e size v n xs := by
  obtain ⟨h1, h2⟩ := h
  refine ⟨h1, ?_⟩
  rcases h2 with h2 | ⟨g, cap, cur, hv, hg, r⟩
  · exact .inl h2
  · exact .inr ⟨g, cap, cur, hv, Nat.le_trans hb hg, r⟩
/-- A link's row. -/
def rowV (rb : Lk → Value) (V : PkV) (k : Lk) : Value := (rowsF rb V k).getD (.slice none 0 0)
theorem NetS.rowV {w : World} {p bm N : Nat} {rb : Lk → Value} {V : PkV} (h : NetS w p bm N rb V) (k : Lk) : w.ownsRow 0 22 1 (rowV rb V k) (bag V k).length ((bag V k).map Pk.val) := by
  unfold Ytmgkenbfjlahpaa.rowV rowsF
  by_cases e : bag V k = []
  · rw [if_pos e, e]; exact World.ownsRow_nil _ _ _ _
  · rw [if_neg e]; exact h.row k e

set_option maxHeartbeats 800000 in
theorem new_calls (w : World) : Calls Try.prog 9 #[] w fun e w' => ∃ p, e = .returned (.pointer (some ⟨p, 0, none⟩)) ∧ NetV w' p 0 [] (New w w') ∧ Fr NoB w w' := by
  have hmm := @run_makeMap Try.prog
  go_enter Try.func9, Try.ntmps9
  go_wp2
  go_ret
  refine ⟨_, rfl, ⟨w.heap.size, 0, fun _ => .slice none 0 0, [], ?_, Nat.le_refl _, rfl, ?_, ?_⟩, ((Fr.refl NoB w).alloc _).alloc _⟩
  · refine NetS.new ?_ ?_ ?_
    · have := heap_alloc_new (w.alloc (.map #[] 0)) (.cells #[.map (some w.heap.size)] 50)
      simpa using this
    · exact (MapF.made w).fr ((Fr.refl NoB _).alloc _) (fun x => x)
    · simp
  · rintro g (rfl | rfl | ⟨k, h, _⟩ | ⟨x, h, _⟩)
    · exact ⟨by simp, by simp⟩
    · exact ⟨by simp, by simp; omega⟩
    · exact absurd rfl h
    · cases h
  · rintro g ⟨_, h⟩; exact h

set_option maxHeartbeats 800000 in
theorem bag_calls {w : World} {p bm N : Nat} {rb : Lk → Value} {V : PkV} (h : NetS w p bm N rb V) {a b : Int} (hk : InR (a, b)) :
    Calls Try.prog 33 #[.pointer (some ⟨p, 0, none⟩), .int .i64 a, .int .i64 b] w fun e w' => e = .returned (rowV rb V (a, b)) ∧ w = w' := by
  have hc := h.cell
  have hl := h.map.look hk
  rw [show (rowsF rb V (a, b)).getD (.slice none 0 0) = rowV rb V (a, b) from rfl] at hl
  clear h
  generalize rowV rb V (a, b) = v at hl ⊢
  go_enter Try.func33, Try.ntmps33
  go_wp2
  go_ret
  exact ⟨rfl, rfl⟩

set_option maxHeartbeats 800000 in
theorem count_calls {w : World} {p B : Nat} {L : List (Lk × List UInt8)} {O : Nat → Prop} (h : NetV w p B L O) {a b : Int} (hk : InR (a, b)) :
    Calls Try.prog 21 #[.pointer (some ⟨p, 0, none⟩), .int .i64 a, .int .i64 b] w fun e w' => e = .returned (.int .i64 ((bag L (a, b)).length : Int)) ∧ w = w' := by
  obtain ⟨bm, N, rb, V, h1, h2, rfl, h4, h5⟩ := h
  have hb := bag_calls h1 hk
  have hv := h1.rowV (a, b)
  rw [bag_bytes, List.length_map]
  obtain ⟨A, c, e, -, -⟩ := own_form hv
  rw [e] at hb
  clear h1 hv e
  generalize (bag V (a, b)).length = n at hb ⊢
  go_enter Try.func21, Try.ntmps21
  go_wp2_with (first | ((with_reducible refine hb.mono ?_); rintro e w' ⟨rfl, rfl⟩))
  go_ret
  exact ⟨rfl, rfl⟩

set_option maxHeartbeats 800000 in
theorem clone_calls (A : Option Addr) (l : List UInt8) (c lo hi : Nat) (w : World) (h : Rd w lo hi A l) (hl : l.length ≤ 140737488355328) :
    Calls Try.prog 34 #[.slice A l.length c] w fun e w' => ∃ x : Pk, e = .returned x.val ∧ x.l = l ∧ w'.ownsRow 0 5 1 x.val l.length (bv l) ∧ (∀ g, x.val.ownBlock = some g → w.heap.size ≤ g) ∧ Fr NoB w w' := by
  obtain ⟨i0, hi0, hz0, hz1, hz2⟩ := info_parts info_byte
  have q22 : ∀ (w : World) (a : Option Addr) (l c : Nat), (binOp .eql 22 (.slice a l c) (.slice none 0 0)).run Try.prog w = .ok (.bool a.isNone) w := fun w a l c => Lib.run_eql_slice_nil w _ _ a l c 0 0 Try.underlying22
  cases A with
  | none =>
    obtain rfl : l = [] := by
      cases l with
      | nil => rfl
      | cons x l => obtain ⟨_, _, h, _⟩ := h (by simp); cases h
    clear h
    go_enter Try.func34, Try.ntmps34
    go_wp2
    go_ret
    exact ⟨⟨none, 0, []⟩, rfl, rfl, World.ownsRow_nil _ _ _ _, fun g hg => by simp [Pk.val, Value.ownBlock] at hg, Fr.refl _ _⟩
  | some a =>
    have HS := Lib.hid h
    clear h
    go_enter Try.func34, Try.ntmps34
    go_wp2_with (at_builtin; refine wpList_append_src _ rfl _ _ 22 rfl w.heap.size 5 i0 (.int .u8 0) 1 1 Try.underlying22 hi0 hz0 hz1 hz2 rfl (by decide) _ 0 [] rfl (World.ownsRow_made w #[] 0 (Nat.le_refl _) (Nat.zero_le _) rfl) (some a) l.length c (bv l) rfl (by simp) (fun h0 => by obtain ⟨ad, e1, e2⟩ := HS.out.srcs h0; exact ⟨ad, e1, fun j u hu => Lib.cell?_alloc_some _ (e2 j u hu)⟩) (bv_one l) (by unfold maxLen; omega) (by omega) (by simp) ?_)
    intro v' w' hA
    have h1 := hA.own
    have h2 : Fr NoB w w' := ((Fr.refl NoB w).alloc _).trans (hA.fr.mono (N := fun g => g = w.heap.size) fun g _ hg => by simpa [Value.ownBlock, eq_comm] using hg) (fun k hk hx => by have hx' : k = w.heap.size := hx; omega)
    clear hA
    obtain ⟨A2, c2, rfl, h3, h4⟩ := own_form h1
    go_wp2
    go_ret
    exact ⟨⟨A2, c2, l⟩, rfl, rfl, nown_base h1 (Nat.zero_le _), fun g hg => (h1.lt g hg).1, h2⟩

/-- append onto a row of one's own, within a region. -/
theorem step_append_src {P : Program} {w : World} {ops : Array Oper} {o : Oper} {a : Act} {K : Act → World → Prop} {Q : Exit → Act → World → Prop} {E : Prop} (hgd : o.guard = none) (s x : Operand) (t : TypeId)
    (ho : o.op = .call { callee := .builtin .append, args := #[s, x], argTypes := #[t, t] })
    (base : Nat) (e : TypeId) (i : TypeInfo) (z : Value) (size bytes : Nat) (ht : P.underlying t = some (.slice e)) (hi : P.info? e = some i) (hz : i.zero = some z)
    (hsize : i.size = size) (hby : i.bytes = bytes) (hzs : z.cells.size = size) (hsz : 0 < size)
    (v : Value) (n : Nat) (xs : List Value) (hs : a.eval s = v) (hown : w.ownsRow base e size v n xs)
    (A : Option Addr) (m c : Nat) (news : List Value) (hx : a.eval x = .slice A m c) (hlen : news.length = m * size) (hsrc : 0 < m → ∃ ad, A = some ad ∧ ∀ j u, news[j]? = some u → w.cell? (ad.add j) = some u) (h1 : ∀ u ∈ news, u.oneCell' = true)
    (h63 : n + m ≤ maxLen) (hbytes : (n + m) * bytes ≤ 140737488355328) (hbase : base ≤ w.heap.size)
    (h : ∀ v' w', App base e size v (n + m) (xs ++ news) w v' w' → K (a.put o.dst v') w') : if Region.wanted o (yielded ops a.tmps) = true then Oper.wp P o a w K Q else E := by
  have hw : Region.wanted o (yielded ops a.tmps) = true := by simp [Region.wanted, hgd]
  rw [if_pos hw]
  have h2 := wp_append_src (Q := Q) (K := K) w s x t ho base e i z size bytes ht hi hz hsize hby hzs hsz v n xs hs hown A m c news hx hlen hsrc h1 h63 hbytes hbase h
  exact h2
theorem info_rows : (Try.prog.info? 22).map (fun i => (i.zero, i.size, i.bytes)) = some (some (.slice none 0 0), 1, 24) := by kernel_rfl

theorem NetS.rowV_block {w : World} {p bm N : Nat} {rb : Lk → Value} {V : PkV} (_ : NetS w p bm N rb V) {k : Lk} {g : Nat} (e : (Ytmgkenbfjlahpaa.rowV rb V k).ownBlock = some g) : bag V k ≠ [] ∧ (rb k).ownBlock = some g := by
  unfold Ytmgkenbfjlahpaa.rowV rowsF at e
  by_cases hb : bag V k = []
  · rw [if_pos hb] at e; cases e
  · rw [if_neg hb] at e; exact ⟨hb, e⟩
theorem NetV.mono {w : World} {p B : Nat} {L : List (Lk × List UInt8)} {O O' : Nat → Prop} (h : NetV w p B L O) (h1 : ∀ g, O g → O' g) (h2 : ∀ g, O' g → g < w.heap.size) : NetV w p B L O' := by
  obtain ⟨bm, N, rb, V, k1, k2, k3, k4, k5⟩ := h
  exact ⟨bm, N, rb, V, k1, k2, k3, fun g hg => h1 g (k4 g hg), h2⟩
theorem NetV.lt {w : World} {p B : Nat} {L : List (Lk × List UInt8)} {O : Nat → Prop} (h : NetV w p B L O) : ∀ g, O g → g < w.heap.size := by
  obtain ⟨bm, N, rb, V, k1, k2, k3, k4, k5⟩ := h
  exact k5
/-- Is a packet taken? -/
def sendOk (L : List (Lk × List UInt8)) (k : Lk) (l : List UInt8) : Bool := decide ((bag L k).length < 32) && decide (l.length ≤ 1048576)
def sendL (L : List (Lk × List UInt8)) (k : Lk) (l : List UInt8) : List (Lk × List UInt8) := if sendOk L k l then L ++ [(k, l)] else L

set_option maxRecDepth 8000 in
set_option maxHeartbeats 3200000 in
theorem send_calls {w : World} {p B : Nat} {L : List (Lk × List UInt8)} {O : Nat → Prop} (h : NetV w p B L O) (hB : B < maxLen) {a b : Int} (hk : InR (a, b)) (A : Option Addr) (l : List UInt8) (c lo hi : Nat) (hr : Rd w lo hi A l) :
    Calls Try.prog 11 #[.pointer (some ⟨p, 0, none⟩), .int .i64 a, .int .i64 b, .slice A l.length c] w fun e w' => e = .returned (.bool (sendOk L (a, b) l)) ∧ NetV w' p (B + 1) (sendL L (a, b) l) (fun g => O g ∨ New w w' g) ∧ Fr O w w' := by
  have hno : sendOk L (a, b) l = false → NetV w p (B + 1) (sendL L (a, b) l) (fun g => O g ∨ New w w g) ∧ Fr O w w := fun e => by
    refine ⟨?_, Fr.refl _ _⟩
    unfold sendL
    rw [e, if_neg (by simp)]
    exact (h.le (Nat.le_succ B)).mono (fun g hg => .inl hg) (fun g hg => by rcases hg with hg | hg; exact h.lt g hg; exact hg.2)
  obtain ⟨bm, N, rb, V, h1, h2, rfl, h4, h5⟩ := h
  obtain ⟨i0, hi0, hz0, hz1, hz2⟩ := info_parts info_rows
  have hb := bag_calls h1 hk
  have hv := h1.rowV (a, b)
  have hc := h1.cell
  have hlen : (bag (bytesV V) (a, b)).length = (bag V (a, b)).length := by rw [bag_bytes, List.length_map]
  obtain ⟨A0, c0, e0, hn0, hm0⟩ := own_form hv
  rw [e0] at hb hv
  have q48 : ∀ (w : World) (r : Option Nat), (binOp .eql 48 (.map r) (.map none)).run Try.prog w = .ok (.bool r.isNone) w := fun w r => run_eql_map_nil w _ _ _ r Try.underlying48
  by_cases h32 : 32 ≤ (bag V (a, b)).length
  · have hs : sendOk (bytesV V) (a, b) l = false := by unfold sendOk; rw [hlen, decide_eq_false (by omega)]; rfl
    have HN := Lib.hid (hno hs)
    rw [hs]
    have h32i : (32 : Int) ≤ ((bag V (a, b)).length : Int) := by omega
    clear h1 h4 h5 hno hv e0 hlen hs h32 hr
    generalize (bag V (a, b)).length = n at hb h32i ⊢
    go_enter Try.func11, Try.ntmps11
    go_wp2_with (first | ((with_reducible refine hb.mono ?_); rintro e w' ⟨rfl, rfl⟩))
    go_ret
    exact ⟨rfl, HN.out⟩
  have h32i : ¬ (32 : Int) ≤ ((bag V (a, b)).length : Int) := by omega
  by_cases hbig : 1048576 < l.length
  · have hs : sendOk (bytesV V) (a, b) l = false := by unfold sendOk; rw [decide_eq_false (show ¬ l.length ≤ 1048576 by omega), Bool.and_false]
    have HN := Lib.hid (hno hs)
    rw [hs]
    have hbi : (1048576 : Int) < (l.length : Int) := by omega
    clear h1 h4 h5 hno hv e0 hlen hs h32 hr hbig
    generalize (bag V (a, b)).length = n at hb h32i ⊢
    generalize l.length = m at hbi ⊢
    go_enter Try.func11, Try.ntmps11
    go_wp2_with (first | ((with_reducible refine hb.mono ?_); rintro e w' ⟨rfl, rfl⟩))
    go_ret
    exact ⟨rfl, HN.out⟩
  have hbi : ¬ (1048576 : Int) < (l.length : Int) := by omega
  have hs : sendOk (bytesV V) (a, b) l = true := by unfold sendOk; rw [hlen, decide_eq_true (show _ < 32 by omega), decide_eq_true (show l.length ≤ 1048576 by omega)]; rfl
  have hsL : sendL (bytesV V) (a, b) l = bytesV V ++ [((a, b), l)] := by unfold sendL; rw [hs, if_pos rfl]
  rw [hs, hsL]
  have H1 := Lib.hid h1
  have H4 := Lib.hid h4
  have H5 := Lib.hid h5
  have HV := Lib.hid hv
  have HE0 := Lib.hid e0
  have HL := Lib.hid hbig
  have H32 := Lib.hid h32
  have hcl := clone_calls A l c lo hi w.drew hr (by omega)
  have hcd : w.drew.cell? ⟨p, 0, none⟩ = some (.map (some bm)) := hc
  clear h1 h4 h5 hno hv e0 hlen hs hsL hbig h32 hr
  obtain ⟨xs, hxs⟩ : ∃ xs, (bag V (a, b)).map Pk.val = xs := ⟨_, rfl⟩
  rw [hxs] at HV
  obtain ⟨n, hn⟩ : ∃ n, (bag V (a, b)).length = n := ⟨_, rfl⟩
  rw [hn] at HV HE0 H32 hb h32i
  have HXS := Lib.hid hxs
  have HNN := Lib.hid hn
  clear hxs hn
  go_enter Try.func11, Try.ntmps11
  go_wp2_with (first | ((with_reducible refine hb.mono ?_); rintro e w' ⟨rfl, rfl⟩))
  refine wp_region_held_drew (S := fun W => W.cell? ⟨p, 0, none⟩ = some (.map (some bm))) (by kernel_rfl) hcd (fun hHeld => ?_)
  first | (refine wpAnyH_take (i := 0) (v := undef) (by simp only [List.getElem?_toArray, List.getElem?_cons_zero]; rfl) (by kernel_rfl) (by kernel_rfl) (by kernel_rfl) (by exact fun _ _ _ h => h) (Or.inr ⟨by rfl, rfl⟩) (by assumption) ?_) | (refine wpAnyH_take (i := 0) (v := ?_) (by simp only [List.getElem?_toArray, List.getElem?_cons_zero]; rfl) (by kernel_rfl) (by kernel_rfl) (by kernel_rfl) (by exact fun _ _ _ h => h) (Or.inl ⟨by rfl, ?_⟩) (by assumption) ?_; rotate_left; · (intro w hSw; (try dsimp only at hSw); go_simp; (try with_reducible rfl)))
  try simp only [Act.put, List.setIfInBounds_toArray, List.set_cons_zero, List.set_cons_succ]
  first | (refine wpAnyH_take (i := 1) (v := undef) (by simp only [List.getElem?_toArray, List.getElem?_cons_succ, List.getElem?_cons_zero]; rfl) (by kernel_rfl) (by kernel_rfl) (by kernel_rfl) (by exact fun _ _ _ h => h) (Or.inr ⟨by rfl, rfl⟩) (by assumption) ?_) | (refine wpAnyH_take (i := 1) (v := ?_) (by simp only [List.getElem?_toArray, List.getElem?_cons_succ, List.getElem?_cons_zero]; rfl) (by kernel_rfl) (by kernel_rfl) (by kernel_rfl) (by exact fun _ _ _ h => h) (Or.inl ⟨by rfl, ?_⟩) (by assumption) ?_; rotate_left; · (intro w hSw; (try dsimp only at hSw); go_simp; (try with_reducible rfl)))
  try simp only [Act.put, List.setIfInBounds_toArray, List.set_cons_zero, List.set_cons_succ]
  first | (refine wpAnyH_take (i := 2) (v := undef) (by simp only [List.getElem?_toArray, List.getElem?_cons_succ, List.getElem?_cons_zero]; rfl) (by kernel_rfl) (by kernel_rfl) (by kernel_rfl) (by exact fun _ _ _ h => h) (Or.inr ⟨by rfl, rfl⟩) (by assumption) ?_) | (refine wpAnyH_take (i := 2) (v := ?_) (by simp only [List.getElem?_toArray, List.getElem?_cons_succ, List.getElem?_cons_zero]; rfl) (by kernel_rfl) (by kernel_rfl) (by kernel_rfl) (by exact fun _ _ _ h => h) (Or.inl ⟨by rfl, ?_⟩) (by assumption) ?_; rotate_left; · (intro w hSw; (try dsimp only at hSw); go_simp; (try with_reducible rfl)))
  try simp only [Act.put, List.setIfInBounds_toArray, List.set_cons_zero, List.set_cons_succ]
  first | (refine wpAnyH_take (i := 3) (v := undef) (by simp only [List.getElem?_toArray, List.getElem?_cons_succ, List.getElem?_cons_zero]; rfl) (by kernel_rfl) (by kernel_rfl) (by kernel_rfl) (by exact fun _ _ _ h => h) (Or.inr ⟨by rfl, rfl⟩) (by assumption) ?_) | (refine wpAnyH_take (i := 3) (v := ?_) (by simp only [List.getElem?_toArray, List.getElem?_cons_succ, List.getElem?_cons_zero]; rfl) (by kernel_rfl) (by kernel_rfl) (by kernel_rfl) (by exact fun _ _ _ h => h) (Or.inl ⟨by rfl, ?_⟩) (by assumption) ?_; rotate_left; · (intro w hSw; (try dsimp only at hSw); go_simp; (try with_reducible rfl)))
  try simp only [Act.put, List.setIfInBounds_toArray, List.set_cons_zero, List.set_cons_succ]
  first | (refine wpAnyH_take (i := 4) (v := undef) (by simp only [List.getElem?_toArray, List.getElem?_cons_succ, List.getElem?_cons_zero]; rfl) (by kernel_rfl) (by kernel_rfl) (by kernel_rfl) (by exact fun _ _ _ h => h) (Or.inr ⟨by rfl, rfl⟩) (by assumption) ?_) | (refine wpAnyH_take (i := 4) (v := ?_) (by simp only [List.getElem?_toArray, List.getElem?_cons_succ, List.getElem?_cons_zero]; rfl) (by kernel_rfl) (by kernel_rfl) (by kernel_rfl) (by exact fun _ _ _ h => h) (Or.inl ⟨by rfl, ?_⟩) (by assumption) ?_; rotate_left; · (intro w hSw; (try dsimp only at hSw); go_simp; (try with_reducible rfl)))
  try simp only [Act.put, List.setIfInBounds_toArray, List.set_cons_zero, List.set_cons_succ]
  first | (refine wpAnyH_take (i := 5) (v := undef) (by simp only [List.getElem?_toArray, List.getElem?_cons_succ, List.getElem?_cons_zero]; rfl) (by kernel_rfl) (by kernel_rfl) (by kernel_rfl) (by exact fun _ _ _ h => h) (Or.inr ⟨by rfl, rfl⟩) (by assumption) ?_) | (refine wpAnyH_take (i := 5) (v := ?_) (by simp only [List.getElem?_toArray, List.getElem?_cons_succ, List.getElem?_cons_zero]; rfl) (by kernel_rfl) (by kernel_rfl) (by kernel_rfl) (by exact fun _ _ _ h => h) (Or.inl ⟨by rfl, ?_⟩) (by assumption) ?_; rotate_left; · (intro w hSw; (try dsimp only at hSw); go_simp; (try with_reducible rfl)))
  try simp only [Act.put, List.setIfInBounds_toArray, List.set_cons_zero, List.set_cons_succ]
  first | (refine wpAnyH_take (i := 6) (v := undef) (by simp only [List.getElem?_toArray, List.getElem?_cons_succ, List.getElem?_cons_zero]; rfl) (by kernel_rfl) (by kernel_rfl) (by kernel_rfl) (by exact fun _ _ _ h => h) (Or.inr ⟨by rfl, rfl⟩) (by assumption) ?_) | (refine wpAnyH_take (i := 6) (v := ?_) (by simp only [List.getElem?_toArray, List.getElem?_cons_succ, List.getElem?_cons_zero]; rfl) (by kernel_rfl) (by kernel_rfl) (by kernel_rfl) (by exact fun _ _ _ h => h) (Or.inl ⟨by rfl, ?_⟩) (by assumption) ?_; rotate_left; · (intro w hSw; (try dsimp only at hSw); go_simp; (try with_reducible rfl)))
  try simp only [Act.put, List.setIfInBounds_toArray, List.set_cons_zero, List.set_cons_succ]
  first | (refine wpAnyH_take (i := 7) (v := undef) (by simp only [List.getElem?_toArray, List.getElem?_cons_succ, List.getElem?_cons_zero]; rfl) (by kernel_rfl) (by kernel_rfl) (by kernel_rfl) (by exact fun _ _ _ h => h) (Or.inr ⟨by rfl, rfl⟩) (by assumption) ?_) | (refine wpAnyH_take (i := 7) (v := ?_) (by simp only [List.getElem?_toArray, List.getElem?_cons_succ, List.getElem?_cons_zero]; rfl) (by kernel_rfl) (by kernel_rfl) (by kernel_rfl) (by exact fun _ _ _ h => h) (Or.inl ⟨by rfl, ?_⟩) (by assumption) ?_; rotate_left; · (intro w hSw; (try dsimp only at hSw); go_simp; (try with_reducible rfl)))
  try simp only [Act.put, List.setIfInBounds_toArray, List.set_cons_zero, List.set_cons_succ]
  first | (refine wpAnyH_take (i := 8) (v := undef) (by simp only [List.getElem?_toArray, List.getElem?_cons_succ, List.getElem?_cons_zero]; rfl) (by kernel_rfl) (by kernel_rfl) (by kernel_rfl) (by exact fun _ _ _ h => h) (Or.inr ⟨by rfl, rfl⟩) (by assumption) ?_) | (refine wpAnyH_take (i := 8) (v := ?_) (by simp only [List.getElem?_toArray, List.getElem?_cons_succ, List.getElem?_cons_zero]; rfl) (by kernel_rfl) (by kernel_rfl) (by kernel_rfl) (by exact fun _ _ _ h => h) (Or.inl ⟨by rfl, ?_⟩) (by assumption) ?_; rotate_left; · (intro w hSw; (try dsimp only at hSw); go_simp; (try with_reducible rfl)))
  try simp only [Act.put, List.setIfInBounds_toArray, List.set_cons_zero, List.set_cons_succ]
  refine wpAnyH_ready (rs := [9]) (by kernel_rfl) (by simp) ?_
  refine AllReadyH.cons rfl (fun KK hK => ?_) AllReadyH.nil
  go_simp
  refine hcl.mono ?_
  rintro e w2 ⟨⟨xA, xc, xl⟩, rfl, hxl, hxo, hxb, f2⟩
  simp only at hxl
  subst hxl
  simp only [Pk.val] at hxo hxb ⊢
  have F2 := Lib.hid ((Fr.refl NoB w).drew.then f2)
  have HX := Lib.hid (show _ ∧ _ from ⟨hxo, hxb⟩)
  clear hxo hxb hcl f2
  go_wp2_with (fail)
  have hlt : p < w.heap.size := Lib.lt_of_heap H1.out.box
  have hc2 : w2.cell? ⟨p, 0, none⟩ = some (.map (some bm)) := (F2.out.cell (p := ⟨p, 0, none⟩) hlt (fun x => x)).trans hc
  refine hK.out _ _ hc2 (fun hHeld2 => ?_)
  clear hK KK
  try simp only [Act.put, List.setIfInBounds_toArray, List.set_cons_zero, List.set_cons_succ]
  refine wpAnyH_ready (rs := [10]) (by kernel_rfl) (by simp) ?_
  refine AllReadyH.cons rfl (fun KK hK => ?_) AllReadyH.nil
  go_simp
  have hn3 := World.news_of_block (heap_alloc_new w2 (.cells #[.slice xA xl.length xc] 22))
  have hc3 : (w2.alloc (.cells #[.slice xA xl.length xc] 22)).cell? ⟨p, 0, none⟩ = some (.map (some bm)) := Lib.cell?_alloc_some _ hc2
  have F3 := Lib.hid (F2.out.alloc (.cells #[.slice xA xl.length xc] 22))
  have HX3 := Lib.hid (HX.out.1.alloc (.cells #[.slice xA xl.length xc] 22))
  refine hK.out _ _ hc3 (fun hHeld3 => ?_)
  clear hK KK
  try simp only [Act.put, List.setIfInBounds_toArray, List.set_cons_zero, List.set_cons_succ]
  refine wpAnyH_ready (rs := [11]) (by kernel_rfl) (by simp) ?_
  refine AllReadyH.cons rfl (fun KK hK => ?_) AllReadyH.nil
  refine step_append_src rfl _ _ 34 rfl 0 22 i0 (.slice none 0 0) 1 24 Try.underlying34 hi0 hz0 hz1 hz2 rfl (by decide) (.slice A0 n c0) n xs rfl (ownBlock_kept HV.out F3.out (fun _ _ x => x)) _ 1 _ [.slice xA xl.length xc] rfl rfl (fun _ => ⟨_, rfl, hn3⟩) (by intro u hu; rw [List.mem_singleton.1 hu]; rfl) (by unfold maxLen; omega) (by omega) (Nat.zero_le _) ?_
  intro v' w3 hA
  have fA : Fr (fun g => (rowV rb V (a, b)).ownBlock = some g) w w3 := F3.out.no.then (by rw [HE0.out]; exact hA.fr)
  have hm3 := H1.out.map.fr fA (fun e => (H1.out.rowd (a, b) _ (H1.out.rowV_block e).1 (H1.out.rowV_block e).2).2.1 rfl)
  have hp3 : w3.cell? ⟨p, 0, none⟩ = some (.map (some bm)) := (fA.cell (p := ⟨p, 0, none⟩) hlt (fun e => (H1.out.rowd (a, b) _ (H1.out.rowV_block e).1 (H1.out.rowV_block e).2).1 rfl)).trans hc
  have hown := hA.own
  have hat := hA.at_
  have FA' := Lib.hid hA.fr
  obtain ⟨A4, c4, rfl, -, -⟩ := nown_form4 hown
  obtain ⟨w4, hput, hm4, f4⟩ := hm3.put (Nat.lt_of_le_of_lt h2 hB) hk (.slice A4 (n + 1) c4)
  have FA := Lib.hid fA
  have HOWN := Lib.hid hown
  have HAT := Lib.hid hat
  have HM4 := Lib.hid hm4
  have F4 := Lib.hid f4
  clear fA hm3 hown hat hA hm4 f4
  refine hK.out _ _ hp3 (fun hHeld4 => ?_)
  clear hK KK
  try simp only [Act.put, List.setIfInBounds_toArray, List.set_cons_zero, List.set_cons_succ]
  refine wpAnyH_ready (rs := [12]) (by kernel_rfl) (by simp) ?_
  refine AllReadyH.cons rfl (fun KK hK => ?_) AllReadyH.nil
  go_simp
  have hp4 : w4.cell? ⟨p, 0, none⟩ = some (.map (some bm)) := (F4.out.cell (p := ⟨p, 0, none⟩) (World.block_lt_of_cell? _ _ hp3) (fun e => H1.out.pbm e)).trans hp3
  refine hK.out _ _ hp4 (fun hHeld5 => ?_)
  clear hK KK
  try simp only [Act.put, List.setIfInBounds_toArray, List.set_cons_zero, List.set_cons_succ]
  refine wpAnyH_done (by kernel_rfl) ?_ _
  go_wp2
  go_ret
  have hbml : bm < w.heap.size := H1.out.map.lt
  have hxlt : ∀ g, (Value.slice xA xl.length xc).ownBlock = some g → w.heap.size ≤ g ∧ g < w2.heap.size := fun g hg => ⟨HX.out.2 g hg, (HX.out.1.lt g hg).2⟩
  have hrow : ∀ g, (rowV rb V (a, b)).ownBlock = some g → g < w.heap.size ∧ g ≠ bm := fun g hg => ⟨((H1.out.row (a, b) (H1.out.rowV_block hg).1).lt g (H1.out.rowV_block hg).2).2, (H1.out.rowd (a, b) g (H1.out.rowV_block hg).1 (H1.out.rowV_block hg).2).2.1⟩
  obtain ⟨g4, c5, hv4⟩ := own_some HOWN.out (Nat.succ_pos n)
  have hb4 : (Value.slice A4 (n + 1) c4).ownBlock = some g4 := by rw [hv4]; rfl
  have hold : (rowV rb V (a, b)).ownBlock = some g4 ∨ g4 = w2.heap.size + 1 := by
    rcases HAT.out with e | e
    · left; rw [HE0.out, ← e, hb4]
    · right; rw [hb4] at e; simpa using e
  have hw2 : w.heap.size ≤ w2.heap.size := F2.out.size
  have hg4 : g4 ≠ bm := by
    rcases hold with e | e
    · exact (hrow g4 e).2
    · omega
  have fT : Fr (fun g => g = bm ∨ (bag V (a, b) ≠ [] ∧ (rb (a, b)).ownBlock = some g)) w w4 :=
    (FA.out.mono (fun g _ hg => .inr (H1.out.rowV_block hg))).then (F4.out.mono fun g _ hg => .inl hg)
  have hs := NetS.send (x := ⟨xA, xc, xl⟩) H1.out hk (by have := H32.out; have := HNN.out; omega) (show xl.length ≤ 1048576 by have := HL.out; omega) fT (fun g hg => hg) HM4.out
    (by rw [HNN.out, HXS.out]; exact ownBlock_kept HOWN.out F4.out fun g hg e => hg4 (by rw [hb4] at hg; cases hg; exact e))
    (by rcases hold with e | e
        · exact .inl ⟨(H1.out.rowV_block e).1, hb4.trans (H1.out.rowV_block e).2.symm⟩
        · exact .inr ⟨g4, hb4, by omega⟩)
    (ownBlock_kept (ownBlock_kept HX3.out FA'.out fun g hg e => by have := hxlt g hg; have := hrow g (by rw [HE0.out]; exact e); omega) F4.out fun g hg e => by have := hxlt g hg; have e' : g = bm := e; omega)
    (fun g hg => ⟨(hxlt g hg).1, fun e => by rw [hb4] at e; cases e; have := hxlt g4 hg; rcases hold with e | e
                                             · have := hrow g4 e; omega
                                             · omega⟩)
  refine ⟨rfl, ⟨bm, N + 1, _, _, hs.1, Nat.succ_le_succ h2, by simp [bytesV], fun g hg => ?_, fun g hg => ?_⟩, fT.mono fun g hg e => ?_⟩
  · have hl := hs.1.lt hg
    rcases hs.2 g hg with h | h
    · exact .inl (H4.out g h)
    · exact .inr ⟨h, hl⟩
  · rcases hg with hg | hg
    · exact Nat.lt_of_lt_of_le (H5.out g hg) fT.size
    · exact hg.2
  · rcases e with e | ⟨e1, e2⟩
    · exact H4.out g (.inr (.inl e))
    · exact H4.out g (.inr (.inr (.inl ⟨(a, b), e1, e2⟩)))

set_option maxHeartbeats 3200000 in
theorem clear_calls {w : World} {p B : Nat} {L : List (Lk × List UInt8)} {O : Nat → Prop} (h : NetV w p B L O) {a b : Int} (hk : InR (a, b)) :
    Calls Try.prog 27 #[.pointer (some ⟨p, 0, none⟩), .int .i64 a, .int .i64 b] w fun e w' => e = .returned (.tuple #[]) ∧ NetV w' p B (clearL L a b) O ∧ Fr O w w' := by
  obtain ⟨bm, N, rb, V, h1, h2, rfl, h4, h5⟩ := h
  have hc := h1.cell
  have hlt : p < w.heap.size := Lib.lt_of_heap h1.box
  have hlm : bm < w.heap.size := h1.map.lt
  have hk2 : InR (b, a) := ⟨hk.2, hk.1⟩
  have hd1 := fun ty => h1.map.del hk ty
  have hpb := h1.pbm
  obtain ⟨w2, hr2, hm2, f2⟩ := h1.map.del hk 0
  have hr2' : ∀ ty, (Builtin.delete_ #[48, 52] ty #[.map (some bm), .agg #[.int .i64 a, .int .i64 b]]).run Try.prog w = .ok (.tuple #[]) w2 := fun ty => hr2
  have hc2 : w2.cell? ⟨p, 0, none⟩ = some (.map (some bm)) := (f2.cell (p := ⟨p, 0, none⟩) hlt (fun e => hpb e)).trans hc
  obtain ⟨w3, hr3, hm3, f3⟩ := hm2.del hk2 0
  have hr3' : ∀ ty, (Builtin.delete_ #[48, 52] ty #[.map (some bm), .agg #[.int .i64 b, .int .i64 a]]).run Try.prog w2 = .ok (.tuple #[]) w3 := fun ty => hr3
  have F3 := Lib.hid (f2.then f3)
  have H1 := Lib.hid h1
  have H4 := Lib.hid h4
  have H5 := Lib.hid h5
  have HM := Lib.hid hm3
  clear h1 h4 h5 hd1 hr2 hr3 hm2 hm3 f2 f3
  go_enter Try.func27, Try.ntmps27
  go_wp2
  go_end0
  have hbag : ∀ k, bag (clearL V a b) k = if k = (a, b) ∨ k = (b, a) then [] else bag V k := fun k => bag_clear V a b k
  have hs := NetS.less (w' := w3) (N' := N) (rb' := rb) H1.out (V' := clearL V a b) List.filter_sublist (fun k => k = (a, b) ∨ k = (b, a)) (fun k hn => by rw [hbag, if_neg hn]) F3.out (fun g hg => .inl hg) (fun _ _ => rfl)
    (by
      have e : rowsF rb (clearL V a b) = upd (upd (rowsF rb V) (a, b) none) (b, a) none := by
        funext k
        unfold rowsF upd
        by_cases e1 : k = (b, a)
        · have h0 : bag (clearL V a b) k = [] := by rw [hbag, if_pos (Or.inr e1)]
          rw [if_pos h0, if_pos e1]
        · rw [if_neg e1]
          by_cases e2 : k = (a, b)
          · have h0 : bag (clearL V a b) k = [] := by rw [hbag, if_pos (Or.inl e2)]
            rw [if_pos h0, if_pos e2]
          · have h0 : bag (clearL V a b) k = bag V k := by rw [hbag, if_neg (fun h => h.elim e2 e1)]
            rw [h0, if_neg e2]
      rw [e]; exact HM.out)
    (fun k hk hne => absurd (by rw [hbag, if_pos hk]) hne)
  refine ⟨rfl, ⟨bm, N, rb, _, hs.1, h2, (clear_bytes V a b).symm, fun g hg => H4.out g (hs.2 g hg), fun g hg => Nat.lt_of_lt_of_le (H5.out g hg) F3.out.size⟩, F3.out.mono fun g _ e => H4.out g (.inr (.inl e))⟩
end Go.Proofs.Ytmgkenbfjlahpaa

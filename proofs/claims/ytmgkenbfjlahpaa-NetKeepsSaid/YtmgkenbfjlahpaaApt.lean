/-
  Apt: rows of bytes that lie apart: what a store and an append leave of them; marks of bytes. No walk.
-/
import Derived.Test.YtmgkenbfjlahpaaLnb
import Derived.Laws.OwnMore
import Derived.Deep.DeepAppendRoom
namespace Go.Proofs.Ytmgkenbfjlahpaa
open Go.RowKit

theorem own_set {w : World} {base e n c g i : Nat} {xs : List Value} {u : Value} (h : w.ownsRow base e 1 (.slice (some ⟨g, 0, none⟩) n c) n xs) : (w.setCell ⟨g, i, none⟩ u).ownsRow base e 1 (.slice (some ⟨g, 0, none⟩) n c) n (xs.set i u) := by
  obtain ⟨h1, h2⟩ := h
  refine ⟨by rw [List.length_set]; exact h1, ?_⟩
  rcases h2 with ⟨h2, _⟩ | ⟨g', cap, cur, hv, hg, hh, r1, r2, r3, r4⟩
  · cases h2
  · cases hv
    refine .inr ⟨g, c, cur.setIfInBounds i u, rfl, hg, by rw [heap_set hh], r1, r2, by simpa using r3, ?_⟩
    rw [← r4, Nat.mul_one, Array.toList_setIfInBounds, List.take_set]
theorem own_prefix {w : World} {base e n m c g : Nat} {xs : List Value} (h : w.ownsRow base e 1 (.slice (some ⟨g, 0, none⟩) n c) n xs) (hm : m ≤ n) : w.ownsRow base e 1 (.slice (some ⟨g, 0, none⟩) m c) m (xs.take m) := by
  obtain ⟨h1, h2⟩ := h
  refine ⟨by rw [List.length_take]; omega, ?_⟩
  rcases h2 with ⟨h2, _⟩ | ⟨g', cap, cur, hv, hg, hh, r1, r2, r3, r4⟩
  · cases h2
  · cases hv
    exact .inr ⟨g, c, cur, rfl, hg, hh, by omega, r2, r3, by rw [← r4, List.take_take]; congr 1; omega⟩
theorem own_cell {w : World} {base e n c g i : Nat} {xs : List Value} {u : Value} (h : w.ownsRow base e 1 (.slice (some ⟨g, 0, none⟩) n c) n xs) (hu : xs[i]? = some u) : w.cell? ⟨g, i, none⟩ = some u ∧ w.frozen? ⟨g, i, none⟩ = false := by
  have hc := h.cells (g := g) rfl i u hu
  rw [Lib.addr_add, Nat.zero_add] at hc
  refine ⟨hc, ?_⟩
  rcases h.2 with ⟨h2, _⟩ | ⟨g', cap, cur, hv, hg, hh, r1, r2, r3, r4⟩
  · cases h2
  · cases hv
    exact (cells_of hh i).2
theorem bv_set (l : List UInt8) (i : Nat) (x : UInt8) : (bv l).set i (.int .u8 (x.toNat : Int)) = bv (l.set i x) := by
  simp [bv, List.map_set]

section
variable {P : Program} (w : World)
/-- append onto a row of the call's own: there was room, or a new row was made. -/
theorem run_append_two (base : Nat) (t ty e : TypeId) (i : TypeInfo) (z : Value) (bytes : Nat) (ht : P.underlying t = some (.slice e)) (hi : P.info? e = some i) (hz : i.zero = some z)
    (hsize : i.size = 1) (hby : i.bytes = bytes) (hzs : z.cells.size = 1)
    (v : Value) (n : Nat) (xs : List Value) (hown : w.ownsRow base e 1 v n xs)
    (a : Addr) (m c : Nat) (news : List Value) (hl : news.length = m) (hm : 0 < m) (hnews : ∀ j u, news[j]? = some u → w.cell? (a.add j) = some u) (h1 : ∀ u ∈ news, u.oneCell' = true)
    (h63 : n + m ≤ maxLen) (hbytes : (n + m) * bytes ≤ 140737488355328) (hbase : base ≤ w.heap.size) :
    ∃ v' w', (Builtin.append_ #[t, t] ty #[v, .slice (some a) m c]).run P w = .ok v' w' ∧ w'.ownsRow base e 1 v' (n + m) (xs ++ news) ∧
      ((∃ g cap, v = .slice (some ⟨g, 0, none⟩) n cap ∧ v' = .slice (some ⟨g, 0, none⟩) (n + m) cap ∧ Fr (OneB g) w w') ∨ (v'.ownBlock = some w.heap.size ∧ Fr NoB w w')) := by
  have hsmall : n + m ≤ 9223372036854775807 := by simp only [maxLen] at h63; omega
  have hlen : (xs ++ news).length = n + m := by rw [List.length_append, hown.1, hl, Nat.mul_one]
  have hx : xs.length = n := by rw [hown.1, Nat.mul_one]
  have hl1 : news.length = m * i.size := by rw [hl, hsize, Nat.mul_one]
  have fnew : ∀ o, Fr NoB w (w.drew.alloc o) := fun o => (Fr.refl NoB w).drew.alloc o
  have grown : ∀ old, old < n + m →
      (w.drew.alloc (.cells (xs.toArray ++ news.toArray ++ Builtin.zeroCells z.cells (grownCap w (n + m) old e - (n + m))) e)).ownsRow base e 1
        (.slice (some ⟨w.heap.size, 0, none⟩) (n + m) (grownCap w (n + m) old e)) (n + m) (xs ++ news) := by
    intro old ho
    have hge := grownCap_ge w (n + m) old e
    have hcm : grownCap w (n + m) old e ≤ maxLen := grownCap_le_maxLen w (n + m) old e h63
    refine ⟨by rw [hlen, Nat.mul_one], .inr ⟨w.heap.size, _, _, rfl, hbase, heap_alloc_new w.drew _, hge, hcm, ?_, ?_⟩⟩
    · simp only [Array.size_append, List.size_toArray, size_zeroCells, hzs, hx, hl]
      omega
    · simp only [Array.toList_append, List.append_assoc, Nat.mul_one]
      rw [← List.append_assoc, ← hlen]
      exact List.take_left
  rcases hown.2 with ⟨rfl, rfl⟩ | ⟨g, cap, cur, rfl, hbg, hg, hnc, hcm, hcs, htake⟩
  · have hx0 : xs = [] := List.eq_nil_of_length_eq_zero hx
    subst hx0
    have hr := run_append_nil (P := P) w t ty e i z ht hi hz a m c news hl1 hnews hm (by omega) (by rw [hby]; simp only [Nat.zero_add] at hbytes; omega)
    have hgr := grown 0 (by omega)
    simp only [Nat.zero_add, List.nil_append, Array.empty_append] at hgr ⊢
    exact ⟨_, _, hr, hgr, .inr ⟨rfl, fnew _⟩⟩
  · by_cases hroom : n + m ≤ cap
    · obtain ⟨w', hr, h2, h3⟩ := run_append_own_spare (P := P) w base t ty e i 1 ht hi hsize g n cap xs hown a m c news (by rw [hl, Nat.mul_one]) hnews h1 hroom
      exact ⟨_, _, hr, h2, .inl ⟨g, cap, rfl, rfl, Fr.ofGrown h3 fun k _ e => by cases e; rfl⟩⟩
    · have holds : ∀ j u, xs[j]? = some u → w.cell? ((⟨g, 0, none⟩ : Addr).add j) = some u := hown.cells (g := g) rfl
      have hr := run_append_grow (P := P) w t ty e i z ht hi hz ⟨g, 0, none⟩ n cap xs (by rw [hx, hsize, Nat.mul_one]) holds a m c news hl1 hnews (by omega) (by omega) (growslice_fits (by omega) (by rw [hby]; exact hbytes))
      exact ⟨_, _, hr, grown cap (by omega), .inr ⟨rfl, fnew _⟩⟩

theorem wpList_append_two {ops : Array Oper} {rest : List Oper} {o : Oper} {a : Act} {Q : Exit → Act → World → Prop} (hgd : o.guard = none) (s x : Operand) (t : TypeId)
    (ho : o.op = .call { callee := .builtin .append, args := #[s, x], argTypes := #[t, t] })
    (base : Nat) (e : TypeId) (i : TypeInfo) (z : Value) (bytes : Nat) (ht : P.underlying t = some (.slice e)) (hi : P.info? e = some i) (hz : i.zero = some z)
    (hsize : i.size = 1) (hby : i.bytes = bytes) (hzs : z.cells.size = 1)
    (v : Value) (n : Nat) (xs : List Value) (hs : a.eval s = v) (hown : w.ownsRow base e 1 v n xs)
    (ad : Addr) (m c : Nat) (news : List Value) (hx : a.eval x = .slice (some ad) m c) (hl : news.length = m) (hm : 0 < m) (hnews : ∀ j u, news[j]? = some u → w.cell? (ad.add j) = some u) (h1 : ∀ u ∈ news, u.oneCell' = true)
    (h63 : n + m ≤ maxLen) (hbytes : (n + m) * bytes ≤ 140737488355328) (hbase : base ≤ w.heap.size)
    (h : ∀ v' w', w'.ownsRow base e 1 v' (n + m) (xs ++ news) → ((∃ g cap, v = .slice (some ⟨g, 0, none⟩) n cap ∧ v' = .slice (some ⟨g, 0, none⟩) (n + m) cap ∧ Fr (OneB g) w w') ∨ (v'.ownBlock = some w.heap.size ∧ Fr NoB w w')) → wpList P ops Q rest (a.put o.dst v') w') : wpList P ops Q (o :: rest) a w := by
  refine wpList_plain hgd fun K hK => ?_
  obtain ⟨v', w', hrun, h2, h3⟩ := run_append_two (P := P) w base t o.type e i z bytes ht hi hz hsize hby hzs v n xs hown ad m c news hl hm hnews h1 h63 hbytes hbase
  unfold Oper.wp execOp
  simp only [ho, resolve, invoke, builtin, Sem.run_bind, Sem.run_pure, Result.andThen_ok, List.map_toArray, List.map_cons, List.map_nil, hs, hx, hrun]
  exact hK _ _ (h v' w' h2 h3)
end

/-- The mark of place i in list k. -/
def mbN (k i : Nat) : Nat := ((1000003 * (k + 7) + i) * 11400714819323198485 % 18446744073709551616) / 72057594037927936
def mb (k i : Nat) : UInt8 := UInt8.ofNat (mbN k i)
def mks (k n : Nat) : List UInt8 := (List.range n).map (mb k)
@[simp] theorem mks_length (k n : Nat) : (mks k n).length = n := by simp [mks]
theorem mks_get {k n i : Nat} (h : i < n) : (mks k n)[i]? = some (mb k i) := by simp [mks, h]
theorem mks_succ (k n : Nat) : mks k (n + 1) = mks k n ++ [mb k n] := by simp [mks, List.range_succ]
theorem mks_take {k n m : Nat} (h : m ≤ n) : (mks k n).take m = mks k m := by
  apply List.ext_getElem?
  intro j
  by_cases hj : j < m
  · rw [List.getElem?_take, if_pos hj, mks_get (by omega), mks_get hj]
  · rw [List.getElem?_take, if_neg hj, List.getElem?_eq_none (by simp; omega)]
theorem mb_val (k i : Nat) (hk : k ≤ 4000) (hi : i ≤ 281474976710656) : (IntKind.u64.wrap (IntKind.u64.wrap (1000003 * ((k : Int) + 7) + (i : Int)) * 11400714819323198485) / 72057594037927936 % 256 : Int) = ((mb k i).toNat : Int) := by
  unfold mb mbN
  rw [UInt8.toNat_ofNat']
  rw [IntKind.wrap_u64, IntKind.wrap_u64]
  have hX : (1000003 * ((k : Int) + 7) + (i : Int)) = ((1000003 * (k + 7) + i : Nat) : Int) := by omega
  rw [hX]
  generalize hY : 1000003 * (k + 7) + i = Y
  have hYb : Y < 18446744073709551616 := by omega
  have h1 : (Y : Int) % 18446744073709551616 = (Y : Int) := by omega
  rw [h1, show (Y : Int) * 11400714819323198485 = ((Y * 11400714819323198485 : Nat) : Int) by omega]
  generalize Y * 11400714819323198485 = T
  omega

set_option maxHeartbeats 800000 in
theorem mark2_calls (k i : Nat) (hk : k ≤ 4000) (hi : i ≤ 281474976710656) (w : World) :
    Calls Try.prog 46 #[.int .i64 (k : Int), .int .i64 (i : Int)] w fun e w' => e = .returned (.int .i64 (1000003 * ((k : Int) + 7) + (i : Int))) ∧ Fr NoB w w' := by
  have hki : (k : Int) ≤ 4000 := by omega
  have hii : (i : Int) ≤ 281474976710656 := by omega
  have w1 : IntKind.i64.wrap ((k : Int) + 7) = (k : Int) + 7 := by rw [IntKind.wrap_i64]; omega
  have w2 : IntKind.i64.wrap (1000003 * ((k : Int) + 7)) = 1000003 * ((k : Int) + 7) := by rw [IntKind.wrap_i64]; omega
  have w3 : IntKind.i64.wrap (1000003 * ((k : Int) + 7) + (i : Int)) = 1000003 * ((k : Int) + 7) + (i : Int) := by rw [IntKind.wrap_i64]; omega
  go_enter Try.func46, Try.ntmps46
  go_wp2
  go_ret
  exact ⟨rfl, Fr.refl NoB w⟩

set_option maxHeartbeats 1600000 in
theorem markb2_calls (k i : Nat) (hk : k ≤ 4000) (hi : i ≤ 281474976710656) (w : World) :
    Calls Try.prog 32 #[.int .i64 (k : Int), .int .i64 (i : Int)] w fun e w' => e = .returned (.int .u8 ((mb k i).toNat : Int)) ∧ Fr NoB w w' := by
  have HC := Lib.hid (fun W => mark2_calls k i hk hi W)
  have HV := Lib.hid (mb_val k i hk hi)
  generalize (1000003 * ((k : Int) + 7) + (i : Int)) = X at HC HV
  clear hk hi
  go_enter Try.func32, Try.ntmps32
  go_wp2_with (fail)
  refine (HC.out _).mono ?_
  rintro e w1 ⟨rfl, f1⟩
  have F1 := Lib.hid f1
  clear f1 HC
  go_wp2
  go_ret
  refine ⟨ret_int ?_, F1.out⟩
  exact HV.out

end Go.Proofs.Ytmgkenbfjlahpaa

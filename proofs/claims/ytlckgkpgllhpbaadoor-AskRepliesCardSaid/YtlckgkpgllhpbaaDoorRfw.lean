/-
  Rfw: App, Rfw.
-/
import Derived.Test.YtlckgkpgllhpbaaDoorBase
import Derived.Lib.AppendStr
import Derived.Test.YtlckgkpgllhpbaaDoorWtr
import Derived.Test.YtlckgkpgllhpbaaDoorKit
/- App -/
namespace Go.Proofs.YtlckgkpgllhpbaaDoor
open Go.RowKit Go.Lib
section
variable {P : Program} (w : World)

theorem strCells_bv (s : ByteArray) : strCells s = bv s.data.toList := rfl

theorem run_append_str (base : Nat) (t u ty e : TypeId) (i : TypeInfo) (ht : P.underlying t = some (.slice e)) (hu : P.underlying u = some .string) (hi : P.info? e = some i) (hz : i.zero = some (.int .u8 0))
    (hsize : i.size = 1) (hby : i.bytes = 1) (v : Value) (n : Nat) (xs : List Value) (hown : w.ownsRow base e 1 v n xs) (s : ByteArray)
    (h63 : n + s.size ≤ maxLen) (hbytes : n + s.size ≤ 140737488355328) (hbase : base ≤ w.heap.size) :
    ∃ v' w', (Builtin.append_ #[t, u] ty #[v, .string s]).run P w = .ok v' w' ∧ App base e 1 v (n + s.size) (xs ++ bv s.data.toList) w v' w' := by
  obtain ⟨v', w', hrun, h2, h3, _⟩ := run_append_own_string (P := P) w base t u ty e i ht hu hi hz hsize hby v n xs hown s h63 hbytes hbase
  refine ⟨v', w', hrun, h2, Fr.ofGrown h3 fun k _ h => h, ?_⟩
  have hxl : xs.length = n := by simpa using hown.1
  rcases hown.2 with ⟨rfl, rfl⟩ | ⟨g, cap, cur, rfl, hbg, hg, hnc, hcm, hcs, htake⟩
  · by_cases hm : s.size = 0
    · have hf := run_firstCells_string (P := P) w 1 s
      rw [hm] at hf
      have hr : (Builtin.append_ #[t, u] ty #[.slice none 0 0, .string s]).run P w = .ok (.slice none 0 0) w := by
        have hn : strCells s = [] := List.eq_nil_of_length_eq_zero (by rw [strCells_length]; exact hm)
        simp [Builtin.append_, run_underlying ht, run_underlying hu, sizeOf, typeInfo, hi, hsize, Builtin.lenOf, hm, hf, hn]
      rw [hr] at hrun
      cases hrun
      exact .inl rfl
    · have hr := run_append_nil_string (P := P) w t u ty e i (.int .u8 0) ht hu hi hz s (by omega) (by omega) (by rw [hby]; omega)
      rw [hr] at hrun
      cases hrun
      exact .inr rfl
  · by_cases hroom : n + s.size ≤ cap
    · have hcs' : cur.size = cap := by simpa using hcs
      have hr := run_append_room_string (P := P) w t u ty e i ht hu hi hsize g n cap cur hg s hroom (by omega)
      rw [hr] at hrun
      cases hrun
      exact .inl rfl
    · have holds : ∀ j u, xs[j]? = some u → w.cell? ((⟨g, 0, none⟩ : Addr).add j) = some u := hown.cells (g := g) rfl
      have hr := run_append_grow_string (P := P) w t u ty e i (.int .u8 0) ht hu hi hz ⟨g, 0, none⟩ n cap xs (by rw [hsize]; simpa using hxl) holds s (by omega) (by unfold maxLen at h63; omega) (by rw [hby]; exact growslice_fits (by omega) (by omega))
      rw [hr] at hrun
      cases hrun
      exact .inr rfl

theorem wpList_append_str {ops : Array Oper} {rest : List Oper} {o : Oper} {a : Act} {Q : Exit → Act → World → Prop} (hgd : o.guard = none) (sl x : Operand) (t u : TypeId)
    (ho : o.op = .call { callee := .builtin .append, args := #[sl, x], argTypes := #[t, u] })
    (base : Nat) (e : TypeId) (i : TypeInfo) (ht : P.underlying t = some (.slice e)) (hu : P.underlying u = some .string) (hi : P.info? e = some i) (hz : i.zero = some (.int .u8 0))
    (hsize : i.size = 1) (hby : i.bytes = 1)
    (v : Value) (n : Nat) (xs : List Value) (hs : a.eval sl = v) (hown : w.ownsRow base e 1 v n xs) (s : ByteArray) (hx : a.eval x = .string s)
    (h63 : n + s.size ≤ maxLen) (hbytes : n + s.size ≤ 140737488355328) (hbase : base ≤ w.heap.size)
    (h : ∀ v' w', App base e 1 v (n + s.size) (xs ++ bv s.data.toList) w v' w' → wpList P ops Q rest (a.put o.dst v') w') : wpList P ops Q (o :: rest) a w := by
  refine wpList_plain hgd fun K hK => ?_
  obtain ⟨v', w', hr, h2⟩ := run_append_str (P := P) w base t u o.type e i ht hu hi hz hsize hby v n xs hown s h63 hbytes hbase
  unfold Oper.wp execOp
  simp only [ho, resolve, invoke, builtin, Sem.run_bind, Sem.run_pure, Result.andThen_ok, List.map_toArray, List.map_cons, List.map_nil, hs, hx, hr]
  exact hK _ _ (h v' w' h2)
end

end Go.Proofs.YtlckgkpgllhpbaaDoor

/- Rfw -/
namespace Go.Proofs.YtlckgkpgllhpbaaDoor
open Go.RowKit
theorem own_fr {M : Nat → Prop} {w w' : World} {base e size n : Nat} {v : Value} {xs : List Value} (h : w.ownsRow base e size v n xs) (hf : Fr M w w') (hm : ∀ g, v.ownBlock = some g → ¬ M g) : w'.ownsRow base e size v n xs :=
  own_keep h fun g hg => hf.block g (h.lt g hg).2 (hm g hg)
theorem own_srcs {w : World} {base e m c : Nat} {A : Option Addr} {xs : List Value} (h : w.ownsRow base e 1 (.slice A m c) m xs) : 0 < m → ∃ ad, A = some ad ∧ ∀ j u, xs[j]? = some u → w.cell? (ad.add j) = some u := fun hm => by
  obtain ⟨g, cap, hv, _, _⟩ := h.form hm
  have hA : A = some ⟨g, 0, none⟩ := by injection hv
  subst hA
  exact ⟨_, rfl, h.cells (g := g) rfl⟩

/-- Block p is a beadleref03.Writer that holds the bytes l in the row G. -/
def RWt (w : World) (p : Nat) (G : Option Nat) (l : List UInt8) : Prop :=
  ∃ A c, w.heap[p]? = some (.cells #[.slice A l.length c] 108 (0, 0)) ∧ w.ownsRow 0 5 1 (.slice A l.length c) l.length (bv l) ∧ (Value.slice A l.length c).ownBlock = G ∧ G ≠ some p
def RPut (p : Nat) (G : Option Nat) (l : List UInt8) (w w' : World) : Prop :=
  ∃ G', RWt w' p G' l ∧ Fr (WF p G) w w' ∧ ∀ k, WF p G' k → WF p G k ∨ w.heap.size ≤ k
theorem RPut.trans {p : Nat} {G G1 : Option Nat} {l : List UInt8} {w w1 w2 : World} (hf : Fr (WF p G) w w1) (hg : ∀ k, WF p G1 k → WF p G k ∨ w.heap.size ≤ k) (h : RPut p G1 l w1 w2) : RPut p G l w w2 := by
  obtain ⟨G2, h2, f2, g2⟩ := h
  refine ⟨G2, h2, hf.trans f2 fun k hk hw => ?_, fun k hk => ?_⟩
  · rcases hg k hw with h | h
    · exact h
    · omega
  · rcases g2 k hk with h | h
    · exact hg k h
    · exact .inr (Nat.le_trans hf.size h)
theorem RPut.cast {p : Nat} {G : Option Nat} {l l' : List UInt8} {w w' : World} (h : RPut p G l w w') (e : l = l') : RPut p G l' w w' := e ▸ h
theorem RWt.lt {w : World} {p : Nat} {G : Option Nat} {l : List UInt8} (h : RWt w p G l) {k : Nat} (hk : WF p G k) : k < w.heap.size := by
  obtain ⟨A, c, h1, h2, rfl, h4⟩ := h
  rcases hk with rfl | hk
  · exact Lib.lt_of_heap h1
  · exact (h2.lt k hk).2
theorem RWt.fr {M : Nat → Prop} {w w' : World} {p : Nat} {G : Option Nat} {l : List UInt8} (h : RWt w p G l) (hf : Fr M w w') (hm : ∀ k, WF p G k → ¬ M k) : RWt w' p G l := by
  have hlt := fun k (hk : WF p G k) => h.lt hk
  obtain ⟨A, c, h1, h2, rfl, h4⟩ := h
  refine ⟨A, c, (hf.block p (hlt p (.inl rfl)) (hm p (.inl rfl))).trans h1, own_keep h2 fun g hg => hf.block g (hlt g (.inr hg)) (hm g (.inr hg)), rfl, h4⟩

/-- append, then the store into the writer. -/
theorem rw_store {p N c : Nat} {A A' : Option Addr} {c' : Nat} {l l2 : List UInt8} {w0 w w1 : World} (hf0 : Fr NoB w0 w) (hp : w.heap[p]? = some (.cells #[.slice A l.length c] 108 (0, 0))) (hp0 : p < w0.heap.size)
    (hG : (Value.slice A l.length c).ownBlock ≠ some p) (hN : N = l2.length)
    (ha : App 0 5 1 (.slice A l.length c) N (bv l2) w (.slice A' N c') w1) : RPut p (Value.slice A l.length c).ownBlock l2 w0 (w1.setCell ⟨p, 0, none⟩ (.slice A' N c')) := by
  subst hN
  have hp1 : w1.heap[p]? = some (.cells #[.slice A l.length c] 108 (0, 0)) := ha.fr.at_ hp hG
  have hne : (Value.slice A' l2.length c').ownBlock ≠ some p := by
    rcases ha.at_ with h | h
    · rw [h]; exact hG
    · rw [h]; intro e; cases e; exact absurd hf0.size (by omega)
  refine ⟨_, ⟨A', c', by rw [heap_set hp1]; rfl, ?_, rfl, hne⟩, ?_, ?_⟩
  · exact own_keep ha.own fun g hg => heap_far (by rintro rfl; exact hne hg) _ _
  · refine ((hf0.no).trans ha.fr fun k hk h => .inr h).setCell (p := ⟨p, 0, none⟩) (fun _ => .inl rfl) _
  · rintro k (rfl | hk)
    · exact .inl (.inl rfl)
    · rcases ha.at_ with h | h
      · rw [h] at hk; exact .inl (.inr hk)
      · rw [h] at hk; cases hk; exact .inr hf0.size

theorem src_one (w : World) (x : Value) (t : TypeId) : 0 < 1 → ∃ ad, some (⟨w.heap.size, 0, none⟩ : Addr) = some ad ∧ ∀ j u, [x][j]? = some u → (w.alloc (.cells #[x] t)).cell? (ad.add j) = some u := fun _ =>
  ⟨_, rfl, cell_one_new w x t⟩

set_option maxHeartbeats 400000 in
theorem rwNew (w : World) : Calls Tryd.prog 31 #[] w fun e w' => e = .returned (.pointer (some ⟨w.heap.size, 0, none⟩)) ∧ RWt w' w.heap.size none [] ∧ Fr NoB w w' ∧ w'.heap.size = w.heap.size + 1 := by
  go_enter Tryd.func31, Tryd.ntmps31
  go_wp2
  go_ret
  exact ⟨rfl, ⟨none, 0, heap_alloc_new w _, World.ownsRow_nil _ _ _ _, rfl, by simp⟩, (Fr.refl _ _).alloc _, by simp⟩

set_option maxHeartbeats 800000 in
theorem rwByte (p : Nat) (G : Option Nat) (l : List UInt8) (x : UInt8) (w : World) (h : RWt w p G l) (hlim : l.length + 1 ≤ 140737488355328) :
    Calls Tryd.prog 32 #[.pointer (some ⟨p, 0, none⟩), .int .u8 x.toNat] w fun e w' => e = .returned (.tuple #[]) ∧ RPut p G (l ++ [x]) w w' := by
  obtain ⟨i0, hi0, hz0, hz1, hz2⟩ := info_parts info_byte
  obtain ⟨A, c, hp, ho, rfl, hG⟩ := h
  have hlt := Lib.lt_of_heap hp
  have c0 := (cells_of hp 0).1
  have f0 := (cells_of hp 0).2
  simp only [List.getElem?_toArray, List.getElem?_cons_zero] at c0
  go_enter Tryd.func32, Tryd.ntmps32
  go_wp2_with (at_builtin; refine wpList_append_src _ rfl _ _ 23 rfl 0 5 i0 (.int .u8 0) 1 1 Tryd.underlying23 hi0 hz0 hz1 hz2 rfl (by decide) _ _ _ rfl (ho.alloc _) _ 1 _ [.int .u8 x.toNat] rfl rfl (src_one w _ _) (by intro u hu; simp at hu; subst hu; rfl) (by unfold maxLen; omega) (by omega) (Nat.zero_le _) ?_)
  intro v' w1 ha
  have hx : bv l ++ [.int .u8 (x.toNat : Int)] = bv (l ++ [x]) := by simp [bv]
  rw [hx] at ha
  obtain ⟨A', c', rfl, _, _⟩ := own_form ha.own
  have q := rw_store ((Fr.refl NoB w).alloc _) ((Below.heap_alloc w _ p hlt).trans hp) hlt hG (by simp) ha
  have hp1 := ha.fr.at_ ((Below.heap_alloc w _ p hlt).trans hp) hG
  have d0 := (cells_of hp1 0).1
  have e0 := (cells_of hp1 0).2
  simp only [List.getElem?_toArray, List.getElem?_cons_zero] at d0
  clear ha hp1 ho hp
  go_wp2
  go_end0
  exact ⟨rfl, q⟩

/-- What one append-and-store of a byte leaves. -/
theorem rw_step {p : Nat} {G : Option Nat} {l : List UInt8} {w : World} (h : RWt w p G l) :
    ∃ (A : Option Addr) (c : Nat), w.cell? ⟨p, 0, none⟩ = some (.slice A l.length c) ∧ w.frozen? ⟨p, 0, none⟩ = false ∧ p < w.heap.size ∧ Hid (∀ (v : Int) (t : TypeId), (w.alloc (.cells #[.int .u8 v] t)).ownsRow 0 5 1 (.slice A l.length c) l.length (bv l)) ∧
      Hid (∀ (v : Int) (t : TypeId) (x : UInt8) (v' : Value) (w1 : World), v = (x.toNat : Int) → App 0 5 1 (.slice A l.length c) (l.length + 1) (bv l ++ [.int .u8 v]) (w.alloc (.cells #[.int .u8 v] t)) v' w1 →
        ∃ (A' : Option Addr) (c' : Nat), v' = .slice A' (l.length + 1) c' ∧ w1.cell? ⟨p, 0, none⟩ = some (.slice A l.length c) ∧ w1.frozen? ⟨p, 0, none⟩ = false ∧ RPut p G (l ++ [x]) w (w1.setCell ⟨p, 0, none⟩ (.slice A' (l.length + 1) c'))) := by
  obtain ⟨A, c, hp, ho, rfl, hG⟩ := h
  have hlt := Lib.lt_of_heap hp
  refine ⟨A, c, (cells_of hp 0).1, (cells_of hp 0).2, hlt, fun v t => ho.alloc _, fun v t x v' w1 hv ha => ?_⟩
  subst hv
  have hx : bv l ++ [.int .u8 (x.toNat : Int)] = bv (l ++ [x]) := by simp [bv]
  rw [hx] at ha
  obtain ⟨A', c', rfl, _, _⟩ := own_form ha.own
  have hp1 := ha.fr.at_ ((Below.heap_alloc w _ p hlt).trans hp) hG
  exact ⟨A', c', rfl, (cells_of hp1 0).1, (cells_of hp1 0).2, rw_store ((Fr.refl NoB w).alloc _) ((Below.heap_alloc w _ p hlt).trans hp) hlt hG (by simp) ha⟩

theorem one_u8 (v : Int) : ∀ u ∈ [Value.int .u8 v], u.oneCell' = true := by intro u hu; simp at hu; subst hu; rfl

set_option maxHeartbeats 1600000 in
theorem rwInt (p : Nat) (G : Option Nat) (l : List UInt8) (n : Int) (w : World) (h1 : -9223372036854775808 ≤ n) (h2 : n ≤ 9223372036854775807) (h : RWt w p G l) (hlim : l.length + 10 ≤ 140737488355328) :
    Calls Tryd.prog 33 #[.pointer (some ⟨p, 0, none⟩), .int .i64 n] w fun e w' => e = .returned (.tuple #[]) ∧ RPut p G (l ++ intB n) w w' := by
  obtain ⟨i0, hi0, hz0, hz1, hz2⟩ := info_parts info_byte
  have hzl := zig_lt h1 h2
  have HR : Hid (intB n = b128 9 (zig n)) := rfl
  have hlen := (intB_len n).2
  have Hz : Hid (zig n = if 0 ≤ n then (2 * n).toNat else (-2 * n - 1).toNat) := rfl
  generalize zig n = U at hzl HR Hz
  generalize intB n = r at HR hlen ⊢
  by_cases hn : n < 0
  · go_enter Tryd.func33, Tryd.ntmps33
    go_wp2
    go_loopw [4] (fun u wr => ∃ (V f : Nat) (pre : List UInt8) (G1 : Option Nat), u = .int .u64 (V : Int) ∧ V < 18446744073709551616 ∧ V < 128 ^ (f + 1) ∧ pre ++ b128 f V = r ∧ RWt wr p G1 (l ++ pre) ∧ Fr (WF p G) w wr ∧ ∀ k, WF p G1 k → WF p G k ∨ w.heap.size ≤ k) (fun u _ => (intOf u).toNat)
    case atStart => exact ⟨U, 9, [], G, by rw [show (U : Int) = 2 * -(n + 1) + 1 by have := Hz.out; rw [if_neg (by omega)] at this; omega], hzl, by omega, HR.out.symm, by simpa using h, Fr.refl _ _, fun _ hk => .inl hk⟩
    case round =>
      obtain ⟨V, f, pre, G1, rfl, hV, hVf, hpre, hW, hF, hG⟩ := hrel
      have hpl : pre.length + (b128 f V).length = r.length := by rw [← hpre]; simp
      have hbl := b128_len f V
      have hp10 : pre.length + 1 ≤ 10 := by omega
      have hlen2 : (l ++ pre).length + 1 ≤ 140737488355328 := by simp; omega
      clear hbl
      obtain ⟨A, c, c0, f0, hlt, HO, HE⟩ := rw_step hW
      have HLL := Lib.hid (show (l ++ pre).length = (l ++ pre).length from rfl)
      generalize hq : l ++ pre = q at *
      have HQ := Lib.hid hq
      clear hq hW
      by_cases hlt2 : V < 128
      · have hd : decide ((128 : Int) ≤ (V : Int)) = false := by simp; omega
        have HP := Lib.hid hpre
        clear hpre hpl
        go_wp2_with (at_builtin; refine wpList_append_src _ rfl _ _ 23 rfl 0 5 i0 (.int .u8 0) 1 1 Tryd.underlying23 hi0 hz0 hz1 hz2 rfl (by decide) _ _ _ rfl (HO.out _ _) _ 1 _ [.int .u8 _] rfl rfl (src_one wr _ _) (one_u8 _) (by unfold maxLen; omega) (by omega) (Nat.zero_le _) ?_)
        intro v' w1 ha
        obtain ⟨A', c', rfl, d0, e0, q1⟩ := HE.out _ _ (UInt8.ofNat V) _ _ (by simp only [UInt8.toNat_ofNat']; omega) ha
        clear ha
        go_wp2
        go_end0
        refine ⟨rfl, (RPut.trans hF hG q1).cast ?_⟩
        rw [← HP.out, b128_lt hlt2, ← HQ.out, List.append_assoc]
      · have hd : decide ((128 : Int) ≤ (V : Int)) = true := by simp; omega
        obtain ⟨f, rfl⟩ : ∃ f', f = f' + 1 := by
          cases f with
          | zero => simp at hVf; omega
          | succ f => exact ⟨f, rfl⟩
        rw [b128_ge (by omega)] at hpre
        have HP := Lib.hid hpre
        have HVf := Lib.hid hVf
        clear hpre hpl hVf
        go_wp2_with (at_builtin; refine wpList_append_src _ rfl _ _ 23 rfl 0 5 i0 (.int .u8 0) 1 1 Tryd.underlying23 hi0 hz0 hz1 hz2 rfl (by decide) _ _ _ rfl (HO.out _ _) _ 1 _ [.int .u8 _] rfl rfl (src_one wr _ _) (one_u8 _) (by unfold maxLen; omega) (by omega) (Nat.zero_le _) ?_)
        intro v' w1 ha
        obtain ⟨A', c', rfl, d0, e0, q1⟩ := HE.out _ _ (UInt8.ofNat (V % 128 + 128)) _ _ (by simp only [UInt8.toNat_ofNat']; omega) ha
        clear ha
        go_wp2
        go_roundw
        case rel =>
          obtain ⟨G2, k1, k2, k3⟩ := RPut.trans hF hG q1
          exact ⟨V / 128, f, pre ++ [UInt8.ofNat (V % 128 + 128)], G2, by go_num, by omega, by have := HVf.out; rw [Nat.pow_succ] at this; exact Nat.div_lt_of_lt_mul (by omega), by rw [← HP.out]; simp, by rw [← List.append_assoc, HQ.out]; exact k1, k2, k3⟩
        case measure => simp [intOf]; omega
  · go_enter Tryd.func33, Tryd.ntmps33
    go_wp2
    go_loopw [4] (fun u wr => ∃ (V f : Nat) (pre : List UInt8) (G1 : Option Nat), u = .int .u64 (V : Int) ∧ V < 18446744073709551616 ∧ V < 128 ^ (f + 1) ∧ pre ++ b128 f V = r ∧ RWt wr p G1 (l ++ pre) ∧ Fr (WF p G) w wr ∧ ∀ k, WF p G1 k → WF p G k ∨ w.heap.size ≤ k) (fun u _ => (intOf u).toNat)
    case atStart => exact ⟨U, 9, [], G, by rw [show (U : Int) = 2 * n by have := Hz.out; rw [if_pos (by omega)] at this; omega], hzl, by omega, HR.out.symm, by simpa using h, Fr.refl _ _, fun _ hk => .inl hk⟩
    case round =>
      obtain ⟨V, f, pre, G1, rfl, hV, hVf, hpre, hW, hF, hG⟩ := hrel
      have hpl : pre.length + (b128 f V).length = r.length := by rw [← hpre]; simp
      have hbl := b128_len f V
      have hp10 : pre.length + 1 ≤ 10 := by omega
      have hlen2 : (l ++ pre).length + 1 ≤ 140737488355328 := by simp; omega
      clear hbl
      obtain ⟨A, c, c0, f0, hlt, HO, HE⟩ := rw_step hW
      have HLL := Lib.hid (show (l ++ pre).length = (l ++ pre).length from rfl)
      generalize hq : l ++ pre = q at *
      have HQ := Lib.hid hq
      clear hq hW
      by_cases hlt2 : V < 128
      · have hd : decide ((128 : Int) ≤ (V : Int)) = false := by simp; omega
        have HP := Lib.hid hpre
        clear hpre hpl
        go_wp2_with (at_builtin; refine wpList_append_src _ rfl _ _ 23 rfl 0 5 i0 (.int .u8 0) 1 1 Tryd.underlying23 hi0 hz0 hz1 hz2 rfl (by decide) _ _ _ rfl (HO.out _ _) _ 1 _ [.int .u8 _] rfl rfl (src_one wr _ _) (one_u8 _) (by unfold maxLen; omega) (by omega) (Nat.zero_le _) ?_)
        intro v' w1 ha
        obtain ⟨A', c', rfl, d0, e0, q1⟩ := HE.out _ _ (UInt8.ofNat V) _ _ (by simp only [UInt8.toNat_ofNat']; omega) ha
        clear ha
        go_wp2
        go_end0
        refine ⟨rfl, (RPut.trans hF hG q1).cast ?_⟩
        rw [← HP.out, b128_lt hlt2, ← HQ.out, List.append_assoc]
      · have hd : decide ((128 : Int) ≤ (V : Int)) = true := by simp; omega
        obtain ⟨f, rfl⟩ : ∃ f', f = f' + 1 := by
          cases f with
          | zero => simp at hVf; omega
          | succ f => exact ⟨f, rfl⟩
        rw [b128_ge (by omega)] at hpre
        have HP := Lib.hid hpre
        have HVf := Lib.hid hVf
        clear hpre hpl hVf
        go_wp2_with (at_builtin; refine wpList_append_src _ rfl _ _ 23 rfl 0 5 i0 (.int .u8 0) 1 1 Tryd.underlying23 hi0 hz0 hz1 hz2 rfl (by decide) _ _ _ rfl (HO.out _ _) _ 1 _ [.int .u8 _] rfl rfl (src_one wr _ _) (one_u8 _) (by unfold maxLen; omega) (by omega) (Nat.zero_le _) ?_)
        intro v' w1 ha
        obtain ⟨A', c', rfl, d0, e0, q1⟩ := HE.out _ _ (UInt8.ofNat (V % 128 + 128)) _ _ (by simp only [UInt8.toNat_ofNat']; omega) ha
        clear ha
        go_wp2
        go_roundw
        case rel =>
          obtain ⟨G2, k1, k2, k3⟩ := RPut.trans hF hG q1
          exact ⟨V / 128, f, pre ++ [UInt8.ofNat (V % 128 + 128)], G2, by go_num, by omega, by have := HVf.out; rw [Nat.pow_succ] at this; exact Nat.div_lt_of_lt_mul (by omega), by rw [← HP.out]; simp, by rw [← List.append_assoc, HQ.out]; exact k1, k2, k3⟩
        case measure => simp [intOf]; omega

set_option maxHeartbeats 800000 in
theorem rwText (p : Nat) (G : Option Nat) (l : List UInt8) (s : ByteArray) (w : World) (h : RWt w p G l) (hlim : l.length + s.size + 10 ≤ 140737488355328) :
    Calls Tryd.prog 46 #[.pointer (some ⟨p, 0, none⟩), .string s] w fun e w' => e = .returned (.tuple #[]) ∧ RPut p G (l ++ textB s.data.toList) w w' := by
  have hl : s.data.toList.length = s.size := by rw [Array.length_toList]; rfl
  have HT : Hid (textB s.data.toList = intB s.size ++ s.data.toList) := by show _ = _; unfold textB; rw [hl]
  have HL := Lib.hid hl
  clear hl
  have hil := (intB_len s.size).2
  obtain ⟨i0, hi0, hz0, hz1, hz2⟩ := info_parts info_byte
  go_enter Tryd.func46, Tryd.ntmps46
  obtain ⟨q, hq⟩ : ∃ q, l ++ intB s.size = q := ⟨_, rfl⟩
  have hql : q.length ≤ l.length + 10 := by rw [← hq]; simp; omega
  have HQ := Lib.hid hq
  clear hq
  go_wp2_with (first
    | (go_at_call 33; refine (rwInt p G l s.size _ (by omega) (by omega) h (by omega)).mono ?_; rintro e w1 ⟨rfl, G1, h1, f1, g1⟩; rw [HQ.out] at h1; obtain ⟨A, c, hp, ho, rfl, hGp⟩ := h1; have c0 := (cells_of hp 0).1; simp only [List.getElem?_toArray, List.getElem?_cons_zero] at c0)
    | (at_builtin; refine wpList_append_str _ rfl _ _ 23 9 rfl 0 5 i0 Tryd.underlying23 Tryd.underlying9 hi0 hz0 hz1 hz2 _ _ _ rfl ho s rfl (by unfold maxLen; omega) (by omega) (Nat.zero_le _) ?_))
  intro v' w2 ha
  rw [← bv_append] at ha
  obtain ⟨A', c', rfl, _, _⟩ := own_form ha.own
  have hlt1 := Lib.lt_of_heap hp
  have k := rw_store (Fr.refl NoB w1) hp hlt1 hGp (by simp [HL.out]) ha
  have hp1 := ha.fr.at_ hp hGp
  have d0 := (cells_of hp1 0).1
  have e0 := (cells_of hp1 0).2
  simp only [List.getElem?_toArray, List.getElem?_cons_zero] at d0
  clear ha hp1 ho hp
  go_wp2
  go_end0
  exact ⟨rfl, (RPut.trans f1 g1 k).cast (by rw [HT.out, ← HQ.out, List.append_assoc])⟩

set_option maxHeartbeats 800000 in
theorem rwBytes (p : Nat) (G : Option Nat) (l d : List UInt8) (A : Option Addr) (c lo hi : Nat) (w : World) (h : RWt w p G l) (hlim : l.length + d.length + 10 ≤ 140737488355328) (hr : Rd w lo hi A d) :
    Calls Tryd.prog 69 #[.pointer (some ⟨p, 0, none⟩), .slice A d.length c] w fun e w' => e = .returned (.tuple #[]) ∧ RPut p G (l ++ textB d) w w' := by
  have hcv := conv_string (P := Tryd.prog) (c := c) Tryd.underlying23 Tryd.underlying5 Tryd.underlying9 hr
  obtain ⟨s, hs⟩ : ∃ s : ByteArray, s = ⟨d.toArray⟩ := ⟨_, rfl⟩
  have hs1 : s.size = d.length := by rw [hs]; rfl
  have hs2 : s.data.toList = d := by rw [hs]
  rw [← hs] at hcv
  have HS1 := Lib.hid hs1
  have HS2 := Lib.hid hs2
  clear hs hs1 hs2
  go_enter Tryd.func69, Tryd.ntmps69
  go_wp2_with (go_at_call 46; refine (rwText p G l s _ h (by have := HS1.out; omega)).mono ?_; rintro e w1 ⟨rfl, q⟩)
  go_end0
  rw [HS2.out] at q
  exact ⟨rfl, q⟩

set_option maxHeartbeats 800000 in
theorem rwDone (p : Nat) (G : Option Nat) (l : List UInt8) (w : World) (h : RWt w p G l) (hlim : l.length ≤ 140737488355328) :
    Calls Tryd.prog 35 #[.pointer (some ⟨p, 0, none⟩)] w fun e w' => ∃ v, e = .returned v ∧ w'.ownsRow w.heap.size 5 1 v l.length (bv l) ∧ Below w.heap.size w w' := by
  obtain ⟨i0, hi0, hz0, hz1, hz2⟩ := info_parts info_byte
  obtain ⟨A, c, hp, ho, rfl, hG⟩ := h
  have c0 := (cells_of hp 0).1
  simp only [List.getElem?_toArray, List.getElem?_cons_zero] at c0
  have hlt := Lib.lt_of_heap hp
  have hs := own_srcs (ho.alloc (.cells #[] 5))
  have ho2 := World.ownsRow_lit (size := 1) (base := w.heap.size) (e := 5) w #[] 0 (Nat.le_refl _) (by unfold maxLen; omega) rfl
  have HS := Lib.hid hs
  have HO2 := Lib.hid ho2
  clear hs ho2 hp ho hG
  go_enter Tryd.func35, Tryd.ntmps35
  go_wp2_with (at_builtin; refine wpList_append_src _ rfl _ _ 23 rfl w.heap.size 5 i0 (.int .u8 0) 1 1 Tryd.underlying23 hi0 hz0 hz1 hz2 rfl (by decide) _ _ _ rfl HO2.out A l.length c (bv l) rfl (by simp) HS.out (bv_one _) (by unfold maxLen; omega) (by omega) (by simp) ?_)
  intro v' w1 ha
  have o := ha.own
  have f : Fr NoB w w1 := ((Fr.refl NoB w).alloc _).trans ha.fr fun k hk h => by simp only [Value.ownBlock, Option.some.injEq] at h; omega
  clear ha
  obtain ⟨A', c', rfl, _, _⟩ := own_form o
  go_wp2
  go_ret
  exact ⟨_, rfl, by simpa using o, f.toBelow'⟩

end Go.Proofs.YtlckgkpgllhpbaaDoor

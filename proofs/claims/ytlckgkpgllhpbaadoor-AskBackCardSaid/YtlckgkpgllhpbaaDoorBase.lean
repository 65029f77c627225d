/-
  Base: frames of memory (what a call leaves as it was), byte slices that read as lists, and small facts on lists of bytes. No program in sight.
-/
import Derived.WalkKit
import Derived.WalkSpells
import Derived.WalkLawsBesides
import Derived.Deep.AppendLies
import Derived.Deep.QuietTactic
import Derived.BigQuiet
import Derived.BigCall
import Derived.BigGuard
import Derived.Deep.RegionWith
import Derived.Deep.LoopGhost
import Derived.Deep.Cut
import Derived.Deep.DeepCutAuto
import Derived.Deep.DeepFit
import Derived.Deep.DeepMust
import Derived.Lib.Hide
import Derived.Lib.Buffer
import Derived.Lib.BufferRead
import Derived.Laws.IdiomStrings
import Derived.Lib.ConvBytes
import Derived.Laws.CopyOwn
import Derived.Maps.AppendAt
import Derived.Deep.Draws
namespace Go.Proofs.YtlckgkpgllhpbaaDoor
open Go.RowKit

/-- w' is w, but for the blocks in M and for new ones. -/
structure Fr (M : Nat → Prop) (w w' : World) : Prop where
  os : w'.os = w.os
  tape : w'.tape = w.tape
  output : w'.output = w.output
  size : w.heap.size ≤ w'.heap.size
  block : ∀ k, k < w.heap.size → ¬ M k → w'.heap[k]? = w.heap[k]?

def NoB : Nat → Prop := fun _ => False
def OneB (p : Nat) : Nat → Prop := fun k => k = p

section
variable {M N : Nat → Prop} {a b c w w' : World}
theorem Fr.refl (M : Nat → Prop) (w : World) : Fr M w w := ⟨rfl, rfl, rfl, Nat.le_refl _, fun _ _ _ => rfl⟩
theorem Fr.trans (h : Fr M a b) (k : Fr N b c) (hn : ∀ k, k < a.heap.size → N k → M k) : Fr M a c :=
  ⟨k.os.trans h.os, k.tape.trans h.tape, k.output.trans h.output, Nat.le_trans h.size k.size, fun i hi hm => (k.block i (Nat.lt_of_lt_of_le hi h.size) (fun hx => hm (hn i hi hx))).trans (h.block i hi hm)⟩
theorem Fr.then (h : Fr M a b) (k : Fr M b c) : Fr M a c := h.trans k fun _ _ x => x
theorem Fr.mono (h : Fr M a b) (hn : ∀ k, k < a.heap.size → M k → N k) : Fr N a b :=
  ⟨h.os, h.tape, h.output, h.size, fun k hk hm => h.block k hk fun x => hm (hn k hk x)⟩
theorem Fr.alloc (h : Fr M a w) (o : Obj) : Fr M a (w.alloc o) :=
  ⟨h.os, h.tape, h.output, Nat.le_trans h.size (by simp), fun k hk hm => (Below.heap_alloc w o k (Nat.lt_of_lt_of_le hk h.size)).trans (h.block k hk hm)⟩
theorem Fr.drew (h : Fr M a w) : Fr M a w.drew := ⟨h.os, h.tape, h.output, h.size, h.block⟩
theorem Fr.drewN (h : Fr M a w) (n : Nat) : Fr M a (w.drewN n) := ⟨h.os, h.tape, h.output, h.size, h.block⟩
theorem Fr.undrewN {n : Nat} (h : Fr M (a.drewN n) w) : Fr M a w := ⟨h.os, h.tape, h.output, h.size, h.block⟩
theorem Fr.undrew (h : Fr M a.drew w) : Fr M a w := ⟨h.os, h.tape, h.output, h.size, h.block⟩
theorem Fr.setCell (h : Fr M a w) {p : Addr} (hp : p.block < a.heap.size → M p.block) (u : Value) : Fr M a (w.setCell p u) :=
  ⟨h.os, h.tape, h.output, by simpa [World.setCell] using h.size, fun k hk hm => (Below.heap_setCell w p u k (by rintro rfl; exact hm (hp hk))).trans (h.block k hk hm)⟩
theorem Fr.setRow (h : Fr M a w) {g : Nat} (hp : g < a.heap.size → M g) (cs : Array Value) : Fr M a (w.setRow g cs) :=
  ⟨h.os, h.tape, h.output, by simpa [World.setRow] using h.size, fun k hk hm => (setRow_other _ _ _ _ (by rintro rfl; exact hm (hp hk))).trans (h.block k hk hm)⟩
theorem Fr.ofBelow (h : Below a.heap.size a b) : Fr M a b := ⟨h.os, h.tape, h.output, h.size, fun k hk _ => h.block k hk⟩
theorem Fr.toBelow (h : Fr M a b) (hm : ∀ k, k < a.heap.size → ¬ M k) : Below a.heap.size a b := ⟨h.os, h.tape, h.output, h.size, fun k hk => h.block k hk (hm k hk)⟩
theorem Fr.toBelow' (h : Fr NoB a b) : Below a.heap.size a b := h.toBelow fun _ _ x => x
theorem Fr.no (h : Fr NoB a b) : Fr M a b := h.mono fun _ _ x => x.elim
theorem Fr.ofGrown {row : Option Nat} (h : a.grownBy b row) (hr : ∀ k, k < a.heap.size → row = some k → M k) : Fr M a b :=
  ⟨h.os, h.tape, h.output, h.size, fun k hk hm => h.block k hk fun e => hm (hr k hk e.symm)⟩
theorem Fr.cell (h : Fr M a b) {p : Addr} (hp : p.block < a.heap.size) (hm : ¬ M p.block) : b.cell? p = a.cell? p := World.cell?_of_block (h.block _ hp hm)
theorem Fr.frozen (h : Fr M a b) {p : Addr} (hp : p.block < a.heap.size) (hm : ¬ M p.block) : b.frozen? p = a.frozen? p := World.frozen?_of_block (h.block _ hp hm)
theorem Fr.at_ (h : Fr M a b) {k : Nat} {o : Obj} (hk : a.heap[k]? = some o) (hm : ¬ M k) : b.heap[k]? = some o := (h.block k (Lib.lt_of_heap hk) hm).trans hk
end

/-- Two worlds agree on the blocks from lo to hi. -/
def Same (lo hi : Nat) (w w' : World) : Prop := ∀ k, lo ≤ k → k < hi → w'.heap[k]? = w.heap[k]?
theorem Fr.same {M : Nat → Prop} {w w' : World} (h : Fr M w w') {lo hi : Nat} (hh : hi ≤ w.heap.size) (hm : ∀ k, lo ≤ k → k < hi → ¬ M k) : Same lo hi w w' :=
  fun k h1 h2 => h.block k (by omega) (hm k h1 h2)
theorem Same.drewN {w w' : World} {lo hi : Nat} (h : Same lo hi w w') (n : Nat) : Same lo hi w (w'.drewN n) := h

/-- Bytes as the cells hold them. -/
def bv (l : List UInt8) : List Value := l.map fun x => .int .u8 (x.toNat : Int)
@[simp] theorem bv_length (l : List UInt8) : (bv l).length = l.length := by simp [bv]
@[simp] theorem bv_nil : bv [] = [] := rfl
@[simp] theorem bv_append (a b : List UInt8) : bv (a ++ b) = bv a ++ bv b := by simp [bv]
theorem bv_cons (x : UInt8) (l : List UInt8) : bv (x :: l) = .int .u8 (x.toNat : Int) :: bv l := rfl
theorem bv_one (l : List UInt8) : ∀ v ∈ bv l, v.oneCell' = true := by
  intro v hv
  obtain ⟨x, _, rfl⟩ := List.mem_map.1 hv
  rfl
theorem bv_get (l : List UInt8) (i : Nat) (h : i < l.length) : (bv l)[i]? = some (.int .u8 ((l.getD i 0).toNat : Int)) := by
  simp [bv, List.getD, h]
theorem bv_drop (l : List UInt8) (n : Nat) : bv (l.drop n) = (bv l).drop n := by simp [bv]
theorem bv_take (l : List UInt8) (n : Nat) : bv (l.take n) = (bv l).take n := by simp [bv]

/-- The slice address A reads, in w, as the bytes l; its block lies from lo on, below hi. -/
def Rd (w : World) (lo hi : Nat) (A : Option Addr) (l : List UInt8) : Prop :=
  0 < l.length → ∃ b o, A = some ⟨b, o, none⟩ ∧ lo ≤ b ∧ b < hi ∧ ∀ i, i < l.length → w.cell? ⟨b, o + i, none⟩ = some (.int .u8 ((l.getD i 0).toNat : Int))

section
variable {w w' : World} {lo hi : Nat} {A : Option Addr} {l : List UInt8}
theorem Rd.nil (w : World) (lo hi : Nat) (A : Option Addr) : Rd w lo hi A [] := fun h => absurd h (by simp)
theorem Rd.keep (h : Rd w lo hi A l) (hs : Same lo hi w w') : Rd w' lo hi A l := fun hl => by
  obtain ⟨b, o, e, h1, h2, hc⟩ := h hl
  exact ⟨b, o, e, h1, h2, fun i hi => (World.cell?_of_block (a := ⟨b, o + i, none⟩) (hs b h1 h2)).trans (hc i hi)⟩
theorem Rd.fr {M : Nat → Prop} (h : Rd w lo hi A l) (hf : Fr M w w') (hh : hi ≤ w.heap.size) (hm : ∀ k, lo ≤ k → k < hi → ¬ M k) : Rd w' lo hi A l := h.keep (hf.same hh hm)
theorem Rd.wide {lo' hi' : Nat} (h : Rd w lo hi A l) (h1 : lo' ≤ lo) (h2 : hi ≤ hi') : Rd w lo' hi' A l := fun hl => by
  obtain ⟨b, o, e, k1, k2, hc⟩ := h hl
  exact ⟨b, o, e, by omega, by omega, hc⟩
theorem Rd.drop {n c : Nat} (h : Rd w lo hi A l) (hn : n ≤ l.length) (hc : l.length ≤ c) : Rd w lo hi (if c = n then A else A.map (·.add n)) (l.drop n) := fun hl => by
  have hlt : n < l.length := by simp at hl; omega
  obtain ⟨b, o, rfl, k1, k2, hcc⟩ := h (by omega)
  rw [if_neg (by omega)]
  refine ⟨b, o + n, by simp [Lib.addr_add], k1, k2, fun i hi => ?_⟩
  have := hcc (n + i) (by simp at hi; omega)
  rw [← Nat.add_assoc] at this
  rw [this]; simp [List.getD]
theorem Rd.take {n : Nat} (h : Rd w lo hi A l) : Rd w lo hi A (l.take n) := fun hl => by
  obtain ⟨b, o, rfl, k1, k2, hcc⟩ := h (by simp at hl; omega)
  refine ⟨b, o, rfl, k1, k2, fun i hi => ?_⟩
  simp at hi
  rw [hcc i (by omega)]; simp [List.getD, show i < n by omega]
theorem Rd.src (h : Rd w lo hi A l) {b o : Nat} (hA : A = some ⟨b, o, none⟩) : ∀ j u, (bv l)[j]? = some u → w.cell? ((⟨b, o, none⟩ : Addr).add j) = some u := by
  intro j u hj
  have hlt : j < l.length := by
    have := (List.getElem?_eq_some_iff.1 hj).1; simpa using this
  obtain ⟨b', o', e, _, _, hc⟩ := h (by omega)
  rw [hA] at e; cases e
  rw [Lib.addr_add, hc j hlt]
  rw [bv_get l j hlt] at hj
  exact hj
end

/-- A slice value of the call's own reads as its bytes. -/
theorem own_form {w : World} {base e n : Nat} {v : Value} {xs : List Value} (h : w.ownsRow base e 1 v n xs) : ∃ A c, v = .slice A n c ∧ n ≤ c ∧ c ≤ maxLen := by
  rcases h.2 with ⟨rfl, rfl⟩ | ⟨g, cap, cur, rfl, _, _, h1, h2, _⟩
  · exact ⟨none, 0, rfl, Nat.le_refl _, Nat.zero_le _⟩
  · exact ⟨_, cap, rfl, h1, h2⟩
theorem own_rd {w : World} {base e n c : Nat} {A : Option Addr} {l : List UInt8} (h : w.ownsRow base e 1 (.slice A n c) l.length (bv l)) : Rd w base w.heap.size A l := by
  intro hl
  rcases h.2 with ⟨_, h0⟩ | ⟨g, cap, cur, hv, hb, hh, h1, h2, h3, h4⟩
  · omega
  · cases hv
    refine ⟨g, 0, rfl, hb, Lib.lt_of_heap hh, fun i hi => ?_⟩
    have := h.cells (g := g) rfl i _ (bv_get l i hi)
    rwa [Lib.addr_add] at this
theorem own_keep {w w' : World} {base e size n : Nat} {v : Value} {xs : List Value} (h : w.ownsRow base e size v n xs) (hk : ∀ g, v.ownBlock = some g → w'.heap[g]? = w.heap[g]?) : w'.ownsRow base e size v n xs := by
  obtain ⟨h1, h2⟩ := h
  refine ⟨h1, ?_⟩
  rcases h2 with h2 | ⟨g, cap, cur, hv, hg, hh, r⟩
  · exact .inl h2
  · exact .inr ⟨g, cap, cur, hv, hg, (hk g (by rw [hv]; rfl)).trans hh, r⟩

theorem ret_int {k : IntKind} {a b : Int} (h : a = b) : Ending.returned (.int k a) = .returned (.int k b) := by rw [h]

/-- 'string(b)': the bytes that b reads as. -/
theorem conv_string {P : Program} {w : World} {src dst e lo hi c : Nat} {A : Option Addr} {l : List UInt8} (hs : P.underlying src = some (.slice e)) (he : P.underlying e = some (.int .u8)) (hd : P.underlying dst = some .string) (hr : Rd w lo hi A l) :
    (convert src dst (.slice A l.length c)).run P w = .ok (.string ⟨l.toArray⟩) w := by
  cases A with
  | none =>
    have : l = [] := by
      cases l with
      | nil => rfl
      | cons x l => obtain ⟨_, _, h, _⟩ := hr (by simp); cases h
    subst this
    exact Lib.run_convert_nil_bytes w src dst e c hs he hd
  | some a =>
    refine run_convert_bytes_back w src dst e a c l hs he hd ?_
    intro j hj
    obtain ⟨b, o, h, _, _, hc⟩ := hr (by omega)
    cases h
    rw [Lib.addr_add, hc j hj]
    simp [List.getD, hj]

section
variable {P : Program} (w : World)

theorem run_append_of_nil (base : Nat) (t ty e : TypeId) (i : TypeInfo) (size : Nat) (ht : P.underlying t = some (.slice e)) (hi : P.info? e = some i)
    (v : Value) (n : Nat) (xs : List Value) (hown : w.ownsRow base e size v n xs) (c : Nat) : (Builtin.append_ #[t, t] ty #[v, .slice none 0 c]).run P w = .ok v w := by
  rcases hown.2 with ⟨rfl, rfl⟩ | ⟨g, cap, cur, rfl, _, _, hnc, _⟩
  · simp [Builtin.append_, run_underlying ht, sizeOf, typeInfo, hi, Builtin.lenOf, Builtin.firstCells]
  · simp [Builtin.append_, run_underlying ht, sizeOf, typeInfo, hi, Builtin.lenOf, Builtin.firstCells, hnc, storeCells]

/-- What append leaves of memory. -/
structure App (base : Nat) (e : TypeId) (size : Nat) (v : Value) (N : Nat) (ys : List Value) (w : World) (v' : Value) (w' : World) : Prop where
  own : w'.ownsRow base e size v' N ys
  fr : Fr (fun k => v.ownBlock = some k) w w'
  at_ : v'.ownBlock = v.ownBlock ∨ v'.ownBlock = some w.heap.size

theorem run_append_src (base : Nat) (t ty e : TypeId) (i : TypeInfo) (z : Value) (size bytes : Nat) (ht : P.underlying t = some (.slice e)) (hi : P.info? e = some i) (hz : i.zero = some z)
    (hsize : i.size = size) (hby : i.bytes = bytes) (hzs : z.cells.size = size) (hsz : 0 < size)
    (v : Value) (n : Nat) (xs : List Value) (hown : w.ownsRow base e size v n xs)
    (A : Option Addr) (m c : Nat) (news : List Value) (hlen : news.length = m * size) (hsrc : 0 < m → ∃ ad, A = some ad ∧ ∀ j u, news[j]? = some u → w.cell? (ad.add j) = some u) (h1 : ∀ u ∈ news, u.oneCell' = true)
    (h63 : n + m ≤ maxLen) (hbytes : (n + m) * bytes ≤ 140737488355328) (hbase : base ≤ w.heap.size) :
    ∃ v' w', (Builtin.append_ #[t, t] ty #[v, .slice A m c]).run P w = .ok v' w' ∧ App base e size v (n + m) (xs ++ news) w v' w' := by
  have hf : ∀ w', w.grownBy w' v.ownBlock → Fr (fun k => v.ownBlock = some k) w w' := fun w' hg => Fr.ofGrown hg fun k _ h => h
  rcases A with _ | ad
  · have hm : m = 0 := by
      rcases Nat.eq_zero_or_pos m with h0 | h0
      · exact h0
      · obtain ⟨ad, h, _⟩ := hsrc h0
        cases h
    subst hm
    have hn : news = [] := List.eq_nil_of_length_eq_zero (by simpa using hlen)
    subst hn
    exact ⟨v, w, run_append_of_nil w base t ty e i size ht hi v n xs hown c, by simpa using hown, Fr.refl _ w, .inl rfl⟩
  · have hcells : ∀ j u, news[j]? = some u → w.cell? (ad.add j) = some u := by
      intro j u hu
      rcases Nat.eq_zero_or_pos m with h0 | h0
      · subst h0
        have hn : news = [] := List.eq_nil_of_length_eq_zero (by simpa using hlen)
        subst hn
        simp at hu
      · obtain ⟨ad', h, hc⟩ := hsrc h0
        injection h with h
        subst h
        exact hc j u hu
    obtain ⟨v', w', hrun, h2, h3, _, h5⟩ := run_append_own_at (P := P) w base t ty e i z size bytes ht hi hz hsize hby hzs hsz v n xs hown ad m c news hlen hcells h1 h63 hbytes hbase
    exact ⟨v', w', hrun, h2, hf _ h3, h5⟩

theorem wp_append_src {o : Oper} {a : Act} {K : Act → World → Prop} {Q : Exit → Act → World → Prop} (s x : Operand) (t : TypeId)
    (ho : o.op = .call { callee := .builtin .append, args := #[s, x], argTypes := #[t, t] })
    (base : Nat) (e : TypeId) (i : TypeInfo) (z : Value) (size bytes : Nat) (ht : P.underlying t = some (.slice e)) (hi : P.info? e = some i) (hz : i.zero = some z)
    (hsize : i.size = size) (hby : i.bytes = bytes) (hzs : z.cells.size = size) (hsz : 0 < size)
    (v : Value) (n : Nat) (xs : List Value) (hs : a.eval s = v) (hown : w.ownsRow base e size v n xs)
    (A : Option Addr) (m c : Nat) (news : List Value) (hx : a.eval x = .slice A m c) (hlen : news.length = m * size) (hsrc : 0 < m → ∃ ad, A = some ad ∧ ∀ j u, news[j]? = some u → w.cell? (ad.add j) = some u) (h1 : ∀ u ∈ news, u.oneCell' = true)
    (h63 : n + m ≤ maxLen) (hbytes : (n + m) * bytes ≤ 140737488355328) (hbase : base ≤ w.heap.size)
    (h : ∀ v' w', App base e size v (n + m) (xs ++ news) w v' w' → K (a.put o.dst v') w') : o.wp P a w K Q := by
  obtain ⟨v', w', hrun, h2⟩ := run_append_src (P := P) w base t o.type e i z size bytes ht hi hz hsize hby hzs hsz v n xs hown A m c news hlen hsrc h1 h63 hbytes hbase
  unfold Oper.wp execOp
  simp only [ho, resolve, invoke, builtin, Sem.run_bind, Sem.run_pure, Result.andThen_ok, List.map_toArray, List.map_cons, List.map_nil, hs, hx, hrun]
  exact h v' w' h2

/-- append onto a row of the call's own, the source nil, empty or not. -/
theorem wpList_append_src {ops : Array Oper} {rest : List Oper} {o : Oper} {a : Act} {Q : Exit → Act → World → Prop} (hgd : o.guard = none) (s x : Operand) (t : TypeId)
    (ho : o.op = .call { callee := .builtin .append, args := #[s, x], argTypes := #[t, t] })
    (base : Nat) (e : TypeId) (i : TypeInfo) (z : Value) (size bytes : Nat) (ht : P.underlying t = some (.slice e)) (hi : P.info? e = some i) (hz : i.zero = some z)
    (hsize : i.size = size) (hby : i.bytes = bytes) (hzs : z.cells.size = size) (hsz : 0 < size)
    (v : Value) (n : Nat) (xs : List Value) (hs : a.eval s = v) (hown : w.ownsRow base e size v n xs)
    (A : Option Addr) (m c : Nat) (news : List Value) (hx : a.eval x = .slice A m c) (hlen : news.length = m * size) (hsrc : 0 < m → ∃ ad, A = some ad ∧ ∀ j u, news[j]? = some u → w.cell? (ad.add j) = some u) (h1 : ∀ u ∈ news, u.oneCell' = true)
    (h63 : n + m ≤ maxLen) (hbytes : (n + m) * bytes ≤ 140737488355328) (hbase : base ≤ w.heap.size)
    (h : ∀ v' w', App base e size v (n + m) (xs ++ news) w v' w' → wpList P ops Q rest (a.put o.dst v') w') : wpList P ops Q (o :: rest) a w :=
  wpList_plain hgd fun _ hK => wp_append_src w s x t ho base e i z size bytes ht hi hz hsize hby hzs hsz v n xs hs hown A m c news hx hlen hsrc h1 h63 hbytes hbase fun v' w' h2 => hK _ _ (h v' w' h2)
end

theorem Rd.srcs {w : World} {lo hi : Nat} {A : Option Addr} {l : List UInt8} (h : Rd w lo hi A l) : 0 < l.length → ∃ ad, A = some ad ∧ ∀ j u, (bv l)[j]? = some u → w.cell? (ad.add j) = some u := fun hl => by
  obtain ⟨b, o, rfl, _, _, _⟩ := h hl
  exact ⟨_, rfl, h.src rfl⟩
/-- The blocks of a slice that was appended to. -/
theorem App.rd {base e : Nat} {v v' : Value} {N : Nat} {l : List UInt8} {w w' : World} (h : App base e 1 v N (bv l) w v' w') : ∃ A c, v' = .slice A l.length c ∧ l.length ≤ c ∧ c ≤ maxLen ∧ Rd w' base w'.heap.size A l := by
  have h0 := h.own
  have hN : N = l.length := by have := h0.1; simpa using this.symm
  subst hN
  obtain ⟨A, c, rfl, h1, h2⟩ := own_form h0
  exact ⟨A, c, rfl, h1, h2, own_rd h0⟩

end Go.Proofs.YtlckgkpgllhpbaaDoor

/-
  Sgn: SegmentTorn: the rows that its loop makes; plain laws.
-/
import Derived.Test.YtmlmbahimklfiaaDoorSgv
namespace Go.Proofs.YtmlmbahimklfiaaDoor
open Go.RowKit

/-- Deeds, their ends and their bytes under way: three rows of one's own, from block n0 on; what the deeds hold lies below. -/
structure DT (n0 : Nat) (w : World) (V U B : Value) (L : List (De × Pl)) (es : List Int) (bs : List UInt8) : Prop where
  own : w.ownsRow n0 35 16 V L.length (dsv L)
  ends : w.ownsRow n0 3 1 U es.length (nvs es)
  bytes : w.ownsRow n0 5 1 B bs.length (bv bs)
  vu : ∀ g, V.ownBlock = some g → U.ownBlock ≠ some g
  vb : ∀ g, V.ownBlock = some g → B.ownBlock ≠ some g
  ub : ∀ g, U.ownBlock = some g → B.ownBlock ≠ some g
  parts : ∀ x ∈ L, RdD w 0 n0 x.1.1 x.2 x.1.2
  base : n0 ≤ w.heap.size
theorem DT.nil (w : World) {n0 : Nat} (h : n0 ≤ w.heap.size) : DT n0 w (.slice none 0 0) (.slice none 0 0) (.slice none 0 0) [] [] [] :=
  ⟨World.ownsRow_nil _ _ _ _, World.ownsRow_nil _ _ _ _, World.ownsRow_nil _ _ _ _, fun g hg => by simp [Value.ownBlock] at hg, fun g hg => by simp [Value.ownBlock] at hg, fun g hg => by simp [Value.ownBlock] at hg, fun x hx => absurd hx (by simp), h⟩
section
variable {n0 : Nat} {w w' : World} {V U B : Value} {L : List (De × Pl)} {es : List Int} {bs : List UInt8}
theorem DT.then (h : DT n0 w V U B L es bs) (fr : Fr NoB w w') : DT n0 w' V U B L es bs :=
  ⟨ownx_by h.own fr (fun _ _ x => x), ownx_by h.ends fr (fun _ _ x => x), ownx_by h.bytes fr (fun _ _ x => x), h.vu, h.vb, h.ub, fun x hx => (h.parts x hx).fr fr h.base (fun _ _ _ x => x), Nat.le_trans h.base fr.size⟩
theorem DT.pushV {V' : Value} {x : De × Pl} (h : DT n0 w V U B L es bs) (hx : RdD w 0 n0 x.1.1 x.2 x.1.2) (hA : App n0 35 16 V (L.length + 1) (dsv L ++ dsv [x]) w V' w') : DT n0 w' V' U B (L ++ [x]) es bs := by
  have hV := app_blocks hA
  have hlow : ∀ k, 0 ≤ k → k < n0 → ¬ V.ownBlock = some k := fun k _ hk hx => by have := (h.own.lt k hx).1; omega
  refine ⟨by rw [List.length_append, dsv_append]; exact hA.own, ownx_by h.ends hA.fr (fun g hg hx => h.vu g hx hg), ownx_by h.bytes hA.fr (fun g hg hx => h.vb g hx hg), fun g hg hu => ?_, fun g hg hu => ?_, h.ub, fun y hy => ?_, Nat.le_trans h.base hA.fr.size⟩
  · rcases hV g hg with h1 | h1
    · exact h.vu g h1 hu
    · have := (h.ends.lt g hu).2; omega
  · rcases hV g hg with h1 | h1
    · exact h.vb g h1 hu
    · have := (h.bytes.lt g hu).2; omega
  · rcases List.mem_append.1 hy with hy | hy
    · exact (h.parts y hy).fr hA.fr h.base hlow
    · simp only [List.mem_singleton] at hy
      subst hy
      exact hx.fr hA.fr h.base hlow
theorem DT.pushU {U' : Value} {x : Int} (h : DT n0 w V U B L es bs) (hA : App n0 3 1 U (es.length + 1) (nvs es ++ nvs [x]) w U' w') : DT n0 w' V U' B L (es ++ [x]) bs := by
  have hU := app_blocks hA
  have hlow : ∀ k, 0 ≤ k → k < n0 → ¬ U.ownBlock = some k := fun k _ hk hx => by have := (h.ends.lt k hx).1; omega
  refine ⟨ownx_by h.own hA.fr (fun g hg hx => h.vu g hg hx), by rw [List.length_append, show nvs (es ++ [x]) = nvs es ++ nvs [x] by simp [nvs]]; exact hA.own, ownx_by h.bytes hA.fr (fun g hg hx => h.ub g hx hg), fun g hg hu => ?_, h.vb, fun g hg hu => ?_, fun y hy => (h.parts y hy).fr hA.fr h.base hlow, Nat.le_trans h.base hA.fr.size⟩
  · rcases hU g hu with h1 | h1
    · exact h.vu g hg h1
    · have := (h.own.lt g hg).2; omega
  · rcases hU g hg with h1 | h1
    · exact h.ub g h1 hu
    · have := (h.bytes.lt g hu).2; omega
theorem DT.pushB {B' : Value} {r : List UInt8} (h : DT n0 w V U B L es bs) (hA : App n0 5 1 B (bs.length + r.length) (bv bs ++ bv r) w B' w') : DT n0 w' V U B' L es (bs ++ r) := by
  have hB := app_blocks hA
  have hlow : ∀ k, 0 ≤ k → k < n0 → ¬ B.ownBlock = some k := fun k _ hk hx => by have := (h.bytes.lt k hx).1; omega
  refine ⟨ownx_by h.own hA.fr (fun g hg hx => h.vb g hg hx), ownx_by h.ends hA.fr (fun g hg hx => h.ub g hg hx), by rw [List.length_append, bv_append]; exact hA.own, h.vu, fun g hg hu => ?_, fun g hg hu => ?_, fun y hy => (h.parts y hy).fr hA.fr h.base hlow, Nat.le_trans h.base hA.fr.size⟩
  · rcases hB g hu with h1 | h1
    · exact h.vb g hg h1
    · have := (h.own.lt g hg).2; omega
  · rcases hB g hu with h1 | h1
    · exact h.ub g hg h1
    · have := (h.ends.lt g hg).2; omega
theorem DT.rd {c : Nat} {A : Option Addr} (h : DT n0 w (.slice A L.length c) U B L es bs) : RdS w 0 w.heap.size A (L.map (·.1)) := fun hl => by
  rw [List.length_map] at hl
  obtain ⟨g, cap, hv, hb, hlt⟩ := h.own.form hl
  have hP : A = some ⟨g, 0, none⟩ := by injection hv
  refine ⟨g, 0, hP, Nat.zero_le _, hlt, fun i q hq => ?_⟩
  rw [List.getElem?_map] at hq
  cases hx : L[i]? with
  | none => rw [hx] at hq; cases hq
  | some x =>
    rw [hx] at hq
    simp only [Option.map_some, Option.some.injEq] at hq
    subst hq
    have h4 := h.parts x (List.mem_of_getElem? hx)
    refine ⟨x.2, fun j v hv => ?_, h4.data.wide (Nat.le_refl _) h.base, h4.ms.wide (Nat.le_refl _) h.base, h4.parts.wide (Nat.le_refl _) h.base⟩
    have := h.own.cells (g := g) (by rw [hP]; rfl) (i * 16 + j) v (dsv_get hx j v hv)
    rw [Lib.addr_add, Nat.zero_add] at this
    rw [Nat.zero_add]
    exact this
end
/-- A deed as the loop makes it at place k. -/
def tornF (f : Fd) (k : Nat) : Fd := { f with z := 7 + 2 * (k : Int), c := (if f.k = 7 then 7 + 2 * (k : Int) else f.c.1, f.c.2) }
theorem tornF_ok {f : Fd} (h : f.Ok) {k : Nat} (hk : k ≤ 100) : (tornF f k).Ok := by
  refine ⟨by show _ ≤ 7 + 2 * (k : Int) ∧ 7 + 2 * (k : Int) ≤ _; omega, h.k, h.s, h.t, h.x, h.m, h.ow, h.ve, h.cv, h.ti, h.er, ?_, h.path, h.data, h.ms⟩
  show _ ≤ (if f.k = 7 then 7 + 2 * (k : Int) else f.c.1) ∧ (if f.k = 7 then 7 + 2 * (k : Int) else f.c.1) ≤ _
  split
  · omega
  · exact h.c
theorem tornF_rd {w : World} {lo hi : Nat} {f : Fd} {p : Pl} {l : List (Fd × Nat)} (h : RdD w lo hi f p l) (k : Nat) : RdD w lo hi (tornF f k) p l := ⟨h.data, h.ms, h.parts⟩
theorem takeW {α : Type} (p : α → Bool) : ∀ (l : List α) (k : Nat), k ≤ l.length → (∀ (i : Nat) x, i < k → l[i]? = some x → p x = true) → (∀ x, l[k]? = some x → p x = false) → (l.takeWhile p).length = k
  | [], k, hk, _, _ => by simp at hk; simp [hk]
  | x :: l, 0, _, _, h => by rw [List.takeWhile_cons, if_neg (by rw [h x rfl]; simp)]; rfl
  | x :: l, k + 1, hk, h1, h2 => by
    rw [List.takeWhile_cons, if_pos (h1 0 x (by omega) rfl), List.length_cons, takeW p l k (by simpa using hk) (fun i y hi hy => h1 (i + 1) y (by omega) (by simpa using hy)) (fun y hy => h2 y (by simpa using hy))]
/-- The deeds that are there whole are as many as the ends that are not behind n. -/
theorem kN_is {R : List De} {n k : Nat} (hk : k ≤ R.length) (h1 : ∀ (i : Nat) (e : Int), i < k → (endZ R)[i]? = some e → e ≤ (n : Int)) (h2 : ∀ e, (endZ R)[k]? = some e → ¬ e ≤ (n : Int)) : kN R n = k := by
  rw [kN_ends R 0 n]
  refine takeW _ _ _ (by rw [endsOf_len]; exact hk) (fun i x hi hx => ?_) (fun x hx => ?_)
  · have := h1 i (x : Int) hi (by simp [endZ, hx])
    simp only [decide_eq_true_eq]
    omega
  · have := h2 (x : Int) (by simp [endZ, hx])
    simp only [decide_eq_false_iff_not]
    omega
set_option maxRecDepth 20000 in
theorem turn_ne (y : UInt8) : y ^^^ 255 ≠ y := by
  intro h
  have h2 : (y ^^^ 255).toNat = y.toNat := by rw [h]
  revert h2
  have : ∀ n : Fin 256, (UInt8.ofNat n.1 ^^^ 255).toNat ≠ (UInt8.ofNat n.1).toNat := by decide
  have h3 := this ⟨y.toNat, y.toNat_lt⟩
  simpa using h3
/-- Deeds whose zxids rise by places. -/
theorem rise_snoc {l : List De} {d : De} : ∀ {a : Int}, Rise a l → lastZ a l < d.1.z → Rise a (l ++ [d]) := by
  induction l with
  | nil => intro a _ h; exact ⟨h, trivial⟩
  | cons e l ih => intro a h h2; exact ⟨h.1, ih h.2 h2⟩
end Go.Proofs.YtmlmbahimklfiaaDoor

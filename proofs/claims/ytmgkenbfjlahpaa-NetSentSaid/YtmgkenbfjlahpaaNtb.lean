/-
  Ntb: a map from links to rows, as a function.
-/
import Derived.Test.YtmgkenbfjlahpaaNta
import Derived.Test.YtmgkenbfjlahpaaRows
import Derived.Maps.OwnSet
import Derived.Maps.RangeWalk
import Derived.WideKeyPair
import Derived.OpenShut
namespace Go.Proofs.Ytmgkenbfjlahpaa
open Go.RowKit Go.WideMaps

/-- A link that may be. -/
def InR (k : Lk) : Prop := (-9223372036854775808 ≤ k.1 ∧ k.1 ≤ 9223372036854775807) ∧ (-9223372036854775808 ≤ k.2 ∧ k.2 ≤ 9223372036854775807)
theorem wf_i64' {a : Int} (h : -9223372036854775808 ≤ a ∧ a ≤ 9223372036854775807) : (Lit.int .i64 a).wf = true := WalkArith.wf_i64 (by omega)
theorem arr : ArrKey Try.prog 52 3 2 := ⟨Try.underlying52, by kernel_rfl, by kernel_rfl, by kernel_rfl⟩
theorem keyd : Go.Maps.Keyed Try.prog 52 := .of_law arr.law
/-- A link as a value, as a key. -/
def kV (k : Lk) : Value := .agg #[.int .i64 k.1, .int .i64 k.2]
def kL (k : Lk) : Lit := .string (keyBytes [.int .i64 k.1, .int .i64 k.2])
theorem key_of {k : Lk} (h : InR k) : keyOf Try.prog 52 (kV k) = some (kL k) :=
  keyOf_pair arr Try.underlying3 ⟨Try.prog.types.size - 1, by kernel_rfl⟩ (wf_i64' h.1) (wf_i64' h.2)
theorem kL_inj {k k' : Lk} (h : InR k) (h' : InR k') (e : kL k = kL k') : k = k' := by
  have := keyd.inj (key_of h) (e ▸ key_of h')
  simp only [kV, Value.agg.injEq] at this
  have h2 := congrArg Array.toList this
  simp only [List.cons.injEq, Value.int.injEq, true_and, and_true] at h2
  exact Prod.ext h2.1 h2.2
set_option maxRecDepth 20000 in
theorem key_inv (key : Value) (kl : Lit) (h : keyOf Try.prog 52 key = some kl) : ∃ k : Lk, key = kV k ∧ InR k := by
  unfold keyOf at h
  simp only [Try.underlying52] at h
  split at h
  · rename_i hc
    simp only [Bool.and_eq_true] at hc
    obtain ⟨ls, hls, -⟩ := Option.map_eq_some_iff.1 h
    have hf := hc.2
    unfold Value.formed at hf
    cases key with
    | agg cs =>
      simp only [Try.underlying52, beq_iff_eq] at hf
      have h2 : cs.size = 2 := by rw [hf]; exact arr.size
      obtain ⟨l⟩ := cs
      match l, h2 with
      | [c0, c1], _ =>
        obtain ⟨m, hm⟩ : ∃ m, Try.prog.types.size + 1 = m + 2 := ⟨Try.prog.types.size - 1, by kernel_rfl⟩
        rw [hm] at hls
        unfold Program.keyLits at hls
        simp only [Try.underlying52, Value.cells] at hls
        rw [if_pos (by rw [arr.size]; rfl), show List.range 2 = [0, 1] from rfl, List.mapM_cons, List.mapM_cons, List.mapM_nil] at hls
        simp only [arr.one, Nat.zero_mul, List.drop_zero, Nat.one_mul, List.take_succ_cons, List.take_zero, List.drop_succ_cons] at hls
        simp only [bind, Option.bind_eq_some_iff, pure, Option.some.injEq, Option.map_eq_some_iff] at hls
        obtain ⟨_, ⟨y0, h0, _, ⟨y1, h1, -⟩, -⟩, -⟩ := hls
        have hh : ∀ {c : Value} {y : List Lit}, Try.prog.keyLits (m + 1) 3 [c] = some y → ∃ a, c = .int .i64 a ∧ (Lit.int .i64 a).wf = true := by
          intro c y hy
          unfold Program.keyLits at hy
          simp only [Try.underlying3] at hy
          cases c <;> simp at hy
          obtain ⟨⟨rfl, hw⟩, -⟩ := hy
          exact ⟨_, rfl, hw⟩
        obtain ⟨a, rfl, wa⟩ := hh h0
        obtain ⟨b, rfl, wb⟩ := hh h1
        have ba := bounds_i64 wa
        have bb := bounds_i64 wb
        exact ⟨(a, b), rfl, ⟨by simp only; omega, by simp only; omega⟩, ⟨by simp only; omega, by simp only; omega⟩⟩
    | _ => simp [Try.underlying52] at hf
  · cases h
/-- Elements read as themselves. -/
def RV (v : Value) : Option (DataW Value × List MemPlace) := some (.held v, [])
/-- What a datum has at each link. -/
def AtF (D : DataW Value) (f : Lk → Option Value) : Prop := ∀ k, InR k → ∀ z, D.atKey (kL k) z = (match f k with | some v => .held v | none => z)
theorem AtF.has {D : DataW Value} {f : Lk → Option Value} (h : AtF D f) {k : Lk} (hk : InR k) : Maps.has D (kL k) = (f k).isSome := by
  have := h k hk
  cases hf : f k with
  | none => rw [hf] at this; exact Maps.has_false_of_atKey this
  | some v => rw [hf] at this; exact Maps.has_true_of_atKey this
/-- Block bm is a map that has these rows. -/
def MapF (w : World) (bm N : Nat) (f : Lk → Option Value) : Prop := ∃ D, w.ownsMap Try.prog 52 RV bm N D ∧ AtF D f
theorem MapF.made (w : World) : MapF (w.alloc (.map #[] 0)) w.heap.size 0 (fun _ => none) := ⟨_, World.ownsMap_made _ _ _ _, fun _ _ _ => rfl⟩
theorem owns_fr {M : Nat → Prop} {w w' : World} {bm N : Nat} {D : DataW Value} (h : w.ownsMap Try.prog 52 RV bm N D) (f : Fr M w w') (hm : ¬ M bm) : w'.ownsMap Try.prog 52 RV bm N D := by
  obtain ⟨es, clock, hb, r⟩ := h
  exact ⟨es, clock, f.at_ hb hm, r⟩
theorem MapF.fr {M : Nat → Prop} {w w' : World} {bm N : Nat} {f : Lk → Option Value} (h : MapF w bm N f) (fr : Fr M w w') (hm : ¬ M bm) : MapF w' bm N f := by
  obtain ⟨D, h1, h2⟩ := h
  exact ⟨D, owns_fr h1 fr hm, h2⟩
theorem MapF.lt {w : World} {bm N : Nat} {f : Lk → Option Value} (h : MapF w bm N f) : bm < w.heap.size := by
  obtain ⟨D, h1, h2⟩ := h
  exact h1.lt
theorem zero_rows (w : World) : (zeroValue 34).run Try.prog w = .ok (.slice none 0 0) w := by kernel_rfl
theorem MapF.look {w : World} {bm N : Nat} {f : Lk → Option Value} (h : MapF w bm N f) {a b : Int} (hk : InR (a, b)) :
    (Instr.lookup 48 (.map (some bm)) (.agg #[.int .i64 a, .int .i64 b]) false).run Try.prog w = .ok ((f (a, b)).getD (.slice none 0 0)) w := by
  obtain ⟨D, h1, h2⟩ := h
  obtain ⟨v, ps, hr, hv⟩ := h1.lookup keyd Try.underlying48 (zero_rows w) (zd := .held (.slice none 0 0)) (zp := []) rfl (key_of hk)
  rw [h2 _ hk] at hv
  simp only [kV] at hr
  rw [hr]
  simp only [RV, Option.some.injEq, Prod.mk.injEq] at hv
  cases hf : f (a, b) with
  | none => rw [hf] at hv; simp only [DataW.held.injEq] at hv; rw [hv.1]; rfl
  | some u => rw [hf] at hv; simp only [DataW.held.injEq] at hv; rw [hv.1]; rfl
/-- A function with another value at one place. -/
def upd (f : Lk → Option Value) (k : Lk) (v : Option Value) : Lk → Option Value := fun x => if x = k then v else f x
theorem ofGrown' {w w' : World} {bm : Nat} (h : w.grownBy w' (some bm)) : Fr (OneB bm) w w' := Fr.ofGrown h fun k _ e => by cases e; rfl
theorem MapF.put {w : World} {bm N : Nat} {f : Lk → Option Value} (h : MapF w bm N f) (hN : N < maxLen) {a b : Int} (hk : InR (a, b)) (v : Value) :
    ∃ w', (Instr.mapUpdate 48 (.map (some bm)) (.agg #[.int .i64 a, .int .i64 b]) v).run Try.prog w = .ok () w' ∧ MapF w' bm (N + 1) (upd f (a, b) (some v)) ∧ Fr (OneB bm) w w' := by
  obtain ⟨D, h1, h2⟩ := h
  obtain ⟨w', hr, h3, hg⟩ := h1.update keyd Try.underlying48 hN (key_of hk) (val := v) (d := .held v) (ps := []) rfl
  refine ⟨w', hr, ⟨_, h3, fun k hk' z => ?_⟩, ofGrown' hg⟩
  unfold upd
  by_cases e : k = (a, b)
  · subst e
    rw [if_pos rfl, Maps.atKey_put_same h1.isMap (keyd.key (key_of hk))]
  · rw [if_neg e, Maps.atKey_put_other (fun x => e (kL_inj hk' hk x)), h2 _ hk']
theorem MapF.del {w : World} {bm N : Nat} {f : Lk → Option Value} (h : MapF w bm N f) {a b : Int} (hk : InR (a, b)) (ty : TypeId) :
    ∃ w', (Builtin.delete_ #[48, 52] ty #[.map (some bm), .agg #[.int .i64 a, .int .i64 b]]).run Try.prog w = .ok (.tuple #[]) w' ∧ MapF w' bm N (upd f (a, b) none) ∧ Fr (OneB bm) w w' := by
  obtain ⟨D, h1, h2⟩ := h
  obtain ⟨w', hr, h3, hg⟩ := h1.drop keyd Try.underlying48 (key_of hk) ty
  refine ⟨w', hr, ⟨_, h3, fun k hk' z => ?_⟩, ofGrown' hg.grown⟩
  unfold upd
  by_cases e : k = (a, b)
  · subst e
    rw [if_pos rfl, Maps.atKey_del_same]
  · rw [if_neg e, Maps.atKey_del_other (fun x => e (kL_inj hk' hk x)), h2 _ hk']
end Go.Proofs.Ytmgkenbfjlahpaa

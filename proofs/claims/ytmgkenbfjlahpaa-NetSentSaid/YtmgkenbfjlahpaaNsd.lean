/-
  Nsd: NetSent: what its walk wants.
-/
import Derived.Test.YtmgkenbfjlahpaaNsc
namespace Go.Proofs.Ytmgkenbfjlahpaa
open Go.RowKit Go.WideMaps Go.Sort

theorem ns_start {w W : World} {p : Nat} (h : BN w W NoB p 0 []) (o : Obj) (ho : o = .cells ((List.replicate 16 (Value.slice none 0 0)).toArray) 54 (0, 0)) : NS w (W.alloc o) (fun g => g = W.heap.size) p 0 [] W.heap.size (fun _ => .slice none 0 0) (fun _ => []) := by
  subst ho
  refine ⟨h.add ((Fr.refl NoB W).alloc _) (fun g hg => .inr ⟨by omega, by rw [World.size_alloc]; omega⟩), ⟨⟨_, heap_alloc_new W _, fun k hk => by rw [List.getElem?_toArray, List.getElem?_replicate, if_pos hk]⟩, fun k _ => OR.nil _ _, fun i j g _ _ hg => by simp [Value.ownBlock] at hg, rfl⟩, fun g hg => by rw [hg]; exact h.fr.size, fun k _ => List.Perm.refl _, fun k _ => Nat.zero_le _⟩
theorem BN.twiceA {w W : World} {X : Nat → Prop} {p B : Nat} {L : List (Lk × List UInt8)} (h : BN w W X p B L) (hB : B < maxLen) {a b : Int} (hk : InR (a, b)) (z : Int) :
    Calls Try.prog 12 #[.pointer (some ⟨p, 0, none⟩), .int .i64 a, .int .i64 b, .int .i64 z] W fun e w' => e = .returned (.bool (twOk L (a, b) z)) ∧ BN w w' X p (B + 1) (twL L (a, b) z) ∧ Fr (fun g => ¬ X g) W w' := by
  unfold twOk twL
  cases hm : meant L (a, b) z with
  | none =>
    refine (h.twiceno hk z (meant_none hm)).mono ?_
    rintro e w' ⟨rfl, rfl⟩
    exact ⟨rfl, h.le (Nat.le_succ _), Fr.refl _ _⟩
  | some l =>
    obtain ⟨n, rfl, -, hn⟩ := meant_some hm
    refine (h.twice hB hk n hn).mono ?_
    rintro e w' ⟨rfl, k1, k2⟩
    exact ⟨rfl, k1, k2⟩
theorem meant_same {L L' : List (Lk × List UInt8)} (h : SameBags L' L) (k : Lk) (z : Int) : meant L' k z = meant L k z := by unfold meant; rw [h k]
theorem pick4 (x : Int) : ∃ f : Nat, f < 4 ∧ ∀ W, Calls Try.prog 28 #[.int .i64 x, .int .i64 4] W fun e w' => e = .returned (.int .i64 (f : Int)) ∧ W = w' := by
  have h1 := Int.emod_nonneg x (by decide : (4 : Int) ≠ 0)
  have h2 := Int.emod_lt_of_pos x (by decide : (0 : Int) < 4)
  refine ⟨(x % 4).toNat, by omega, fun W => ?_⟩
  have := pick_calls x 4 W (by decide) (by decide)
  rwa [show ((x % 4).toNat : Int) = x % 4 by omega]

theorem val_take {w W : World} {g : Nat} {V : List Pk} (F : Fr NoB w W) (hg : g < w.heap.size) (h : ∀ (j : Nat) u, (V.map Pk.val)[j]? = some u → w.cell? ((⟨g, 0, none⟩ : Addr).add j) = some u) (i : Nat) :
    ∀ (j : Nat) u, ((V.map Pk.val).take i)[j]? = some u → W.cell? ((⟨g, 0, none⟩ : Addr).add j) = some u := fun j u hu => by
  have hj : (V.map Pk.val)[j]? = some u := by
    by_cases hlt : j < i
    · rwa [List.getElem?_take_of_lt hlt] at hu
    · rw [List.getElem?_take_eq_none (by omega)] at hu; cases hu
  have h2 := h j u hj
  rw [Lib.addr_add] at h2 ⊢
  exact (F.cell (p := ⟨g, 0 + j, none⟩) hg (fun x => x)).trans h2
theorem val_drop {w W : World} {g : Nat} {V : List Pk} (F : Fr NoB w W) (hg : g < w.heap.size) (h : ∀ (j : Nat) u, (V.map Pk.val)[j]? = some u → w.cell? ((⟨g, 0, none⟩ : Addr).add j) = some u) (i : Nat) :
    ∀ (j : Nat) u, ((V.map Pk.val).drop i)[j]? = some u → W.cell? ((⟨g, i, none⟩ : Addr).add j) = some u := fun j u hu => by
  rw [List.getElem?_drop] at hu
  have h2 := h _ u hu
  rw [Lib.addr_add, Nat.zero_add] at h2
  rw [Lib.addr_add]
  exact (F.cell (p := ⟨g, i + j, none⟩) hg (fun x => x)).trans h2

theorem vals_tk (V : List Pk) (i : Nat) : ∀ u ∈ (V.map Pk.val).take i, u.oneCell' = true := fun u hu => by
  obtain ⟨y, -, rfl⟩ := List.mem_map.1 (List.mem_of_mem_take hu)
  rfl
theorem vals_dr (V : List Pk) (i : Nat) : ∀ u ∈ (V.map Pk.val).drop i, u.oneCell' = true := fun u hu => by
  obtain ⟨y, -, rfl⟩ := List.mem_map.1 (List.mem_of_mem_drop hu)
  rfl
theorem less_row {W : World} {base i nv : Nat} {v : Value} {V : List Pk} (h : V.length = nv) (hi : i < nv) (o : W.ownsRow base 22 1 v (i + (nv - (i + 1))) ((V.map Pk.val).take i ++ (V.map Pk.val).drop (i + 1))) :
    W.ownsRow base 22 1 v (V.take i ++ V.drop (i + 1)).length ((V.take i ++ V.drop (i + 1)).map Pk.val) := by
  have e : (V.take i ++ V.drop (i + 1)).length = i + (nv - (i + 1)) := by rw [List.length_append, List.length_take, List.length_drop, h]; omega
  rw [e, List.map_append, List.map_take, List.map_drop]
  exact o
theorem less_perm {V : List Pk} {i n : Nat} {x : Pk} {L : List (Lk × List UInt8)} {k : Lk} (h : (V.map Pk.l).Perm (bag L k)) (hi : V[i]? = some x) (hn : (bag L k)[n]? = some x.l) : ((V.take i ++ V.drop (i + 1)).map Pk.l).Perm (bag (dropL L k n) k) := by
  rw [bag_drop_same, List.map_append, List.map_take, List.map_drop]
  exact perm_less h (by rw [List.getElem?_map, hi]; rfl) hn
theorem own_cap {w : World} {b e s n n' c : Nat} {A : Option Addr} {xs : List Value} (h : w.ownsRow b e s (.slice A n' c) n xs) : n ≤ c := by
  obtain ⟨_, _, e, h3, -⟩ := nown_form4 h
  cases e
  exact h3
theorem i64_succ {i : Nat} (h : i ≤ 1000000000) : IntKind.i64.wrap ((i : Int) + 1) = (i : Int) + 1 := by rw [IntKind.wrap_i64]; omega
theorem tk_l1 {V : List Pk} {nv i : Nat} (h : V.length = nv) (hi : i < nv) : ((V.map Pk.val).take i).length = i * 1 := by rw [List.length_take, List.length_map, h]; omega
theorem dr_l1 {V : List Pk} {nv : Nat} (h : V.length = nv) (i : Nat) : ((V.map Pk.val).drop i).length = (nv - i) * 1 := by rw [List.length_drop, List.length_map, h]; omega
theorem bd_two {i nv : Nat} (h : i < nv) (h2 : nv ≤ 32) : (0 + i ≤ maxLen ∧ (0 + i) * 24 ≤ 140737488355328) ∧ (i + (nv - (i + 1)) ≤ maxLen ∧ (i + (nv - (i + 1))) * 24 ≤ 140737488355328) := by unfold maxLen; omega

end Go.Proofs.Ytmgkenbfjlahpaa

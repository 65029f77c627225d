/-
  Rck: the document's answer to whether a text is a path.
-/
import Derived.Test.YtmlmbahimklfiaaGreatDoorPtd
import Derived.Test.YtmlmbahimklfiaaGreatDoorShelf
import Derived.Lib.SplitLaws
import Derived.Lib.IndexBytes
import Derived.Handy
namespace Go.Proofs.YtmlmbahimklfiaaGreatDoor
open Go.RowKit Go.Shelf

theorem mk_bang (l : List UInt8) (j : Nat) (h : j < l.length) : (ByteArray.mk l.toArray).data[j]! = l[j] := by
  simp [getElem!_pos, h]
theorem spl_ne : ∀ t : List UInt8, spl t ≠ []
  | [] => by simp [spl]
  | c :: t => by
    unfold spl
    split
    · simp
    · split <;> simp
theorem pchk_iff {l : List UInt8} : pchk l = true ↔ ∃ t, l = 47 :: t ∧ l.length ≤ 200 ∧ rp t = true := by
  cases l with
  | nil => simp [pchk]
  | cons c t =>
    unfold pchk
    simp only [Bool.and_eq_true, beq_iff_eq, decide_eq_true_eq]
    constructor
    · rintro ⟨rfl, h1, h2⟩
      exact ⟨t, rfl, h1, h2⟩
    · rintro ⟨t', h, h1, h2⟩
      cases h
      exact ⟨rfl, h1, h2⟩

set_option maxRecDepth 8000 in
set_option maxHeartbeats 3200000 in
theorem refpart_calls (l : List UInt8) (w : World) (hl : l.length ≤ 140737488355328) :
    Calls Tryz.prog 187 #[.string ⟨l.toArray⟩] w fun e w' => e = .returned (.bool (partOk l)) ∧ Fr NoB w w' := by
  go_enter Tryz.func187, Tryz.ntmps187
  go_wp2
  go_loopw [3] (fun i W => ∃ k : Nat, i = .int .i64 (k : Int) ∧ k ≤ l.length ∧ (l.take k).all okc = true ∧ Fr NoB w W) (fun i _ => l.length - (intOf i).toNat)
  case atStart => exact ⟨0, rfl, Nat.zero_le _, by simp, Fr.refl _ _⟩
  case round =>
    obtain ⟨k, rfl, hk, ha, hf⟩ := hrel
    have hsz : (ByteArray.mk l.toArray).size = l.length := mk_size l
    by_cases hlt : k < l.length
    · have hb : (ByteArray.mk l.toArray).data[k]! = l[k] := mk_bang l k hlt
      have hi : (k : Int) < ((ByteArray.mk l.toArray).size : Int) := by rw [hsz]; omega
      clear hb
      have hpf : okc l[k] = false → partOk l = false := fun ho => by
        unfold partOk
        rw [show l.all okc = false from List.all_eq_false.2 ⟨l[k], List.getElem_mem _, by rw [ho]; decide⟩, Bool.false_and]
      have hrel : okc l[k] = true → (∃ k' : Nat, Value.int .i64 ((k : Int) + 1) = .int .i64 (k' : Int) ∧ k' ≤ l.length ∧ (l.take k').all okc = true ∧ Fr NoB w wr) ∧ l.length - (intOf (.int .i64 ((k : Int) + 1))).toNat < l.length - (intOf (.int .i64 (k : Int))).toNat := fun ho => ⟨⟨k + 1, rfl, by omega, by rw [List.take_add_one, List.all_append, ha, List.getElem?_eq_getElem hlt]; simp [ho], hf⟩, by simp [intOf]; omega⟩
      have hok : okc l[k] = decide (33 ≤ l[k].toNat ∧ l[k].toNat ≤ 126 ∧ l[k].toNat ≠ 47) := rfl
      go_wp2
      all_goals (simp only [mk_get, beq_iff_eq, beq_eq_false_iff_ne, ne_eq] at *)
      all_goals first
        | (go_ret; exact ⟨by rw [hpf (by rw [hok]; exact decide_eq_false (by omega))]; rfl, hf⟩)
        | exact hrel (by rw [hok]; exact decide_eq_true (by omega))
        | (exfalso; omega)
        | trace_state
    · obtain rfl : k = l.length := by omega
      rw [List.take_length] at ha
      have e0 : (ByteArray.mk l.toArray == ByteArray.mk #[]) = (l == []) := mk_eq l []
      have e1 : (ByteArray.mk l.toArray == ByteArray.mk #[46]) = (l == [46]) := mk_eq l [46]
      have e2 : (ByteArray.mk l.toArray == ByteArray.mk #[46, 46]) = (l == [46, 46]) := mk_eq l [46, 46]
      have hpf : partOk l = (l != [] && (l != [46] && l != [46, 46])) := by
        unfold partOk
        rw [ha, Bool.true_and]
      have hi : ((l.length : Nat) : Int) = ((ByteArray.mk l.toArray).size : Int) := by rw [hsz]
      clear e0 e1 e2
      rw [hi]
      go_wp2
      all_goals subst_vars
      all_goals go_ret
      all_goals refine ⟨?_, hf⟩
      all_goals first | rfl | (rw [hpf]; simp [bne, Bool.and_assoc]) | trace_state

theorem bytes_list (l : List UInt8) : (ByteArray.mk l.toArray).data.toList = l := by simp
theorem splitB_spl : ∀ (n : Nat) (t : List UInt8), t.length ≤ n → Lib.splitB ⟨#[47]⟩ 0 (Lib.countB ⟨t.toArray⟩ ⟨#[47]⟩) ⟨t.toArray⟩ = ((spl t).map fun x => ⟨x.toArray⟩) ∧ Lib.countB ⟨t.toArray⟩ ⟨#[47]⟩ + 1 = (spl t).length
  | n, t, hn => by
    have hx : Lib.indexB ⟨t.toArray⟩ ⟨#[47]⟩ = Lib.indexByte t 47 := by
      show Lib.index _ _ = _
      rw [show (ByteArray.mk t.toArray).data.toList = t by simp]
      exact Lib.index_one t 47
    rcases cutAt t with h | ⟨a, b, rfl, h⟩
    · rw [ib_none h] at hx
      rw [Lib.countB_miss _ _ hx, spl_none h]
      exact ⟨rfl, rfl⟩
    · rw [ib_some b h] at hx
      cases n with
      | zero => simp at hn
      | succ n =>
        have he : (ByteArray.mk (a ++ 47 :: b).toArray).extract (a.length + (ByteArray.mk #[47]).size) (ByteArray.mk (a ++ 47 :: b).toArray).size = ⟨b.toArray⟩ := by
          rw [mk_ext, mk_size (a ++ 47 :: b), List.take_length, show a ++ 47 :: b = (a ++ [47]) ++ b by simp, show a.length + (ByteArray.mk #[47]).size = (a ++ [47]).length by simp; rfl, List.drop_left]
        have he0 : (ByteArray.mk (a ++ 47 :: b).toArray).extract 0 (a.length + 0) = ⟨a.toArray⟩ := by
          rw [mk_ext]; simp
        obtain ⟨i1, i2⟩ := splitB_spl n b (by simp at hn; omega)
        rw [Lib.countB_hit _ _ _ (by decide) hx, he, Nat.add_comm 1, Lib.splitB_hit _ _ _ _ _ hx, he, he0, i1, spl_some b h]
        exact ⟨rfl, by simp [i2]⟩

/-- A row of texts in memory. -/
def StrRow (W : World) (b : Nat) (xs : List (List UInt8)) : Prop := ∀ (j : Nat) x, xs[j]? = some x → W.cell? ⟨b, j, none⟩ = some (.string ⟨x.toArray⟩)
theorem StrRow.fr {w w' : World} {b : Nat} {xs : List (List UInt8)} (h : StrRow w b xs) (f : Fr NoB w w') (hb : b < w.heap.size) : StrRow w' b xs :=
  fun j x hx => (f.cell (p := ⟨b, j, none⟩) hb id).trans (h j x hx)

theorem spl_first {t : List UInt8} (h : (47 : UInt8) ∉ t) : spl t = [t] := spl_none h
/-- What is not a path, and begins as one. -/
theorem pchk_spl {t : List UInt8} (ht : t ≠ []) (hl : (47 :: t : List UInt8).length ≤ 200) : pchk (47 :: t) = (spl t).all partOk := by
  unfold pchk rp
  simp only [beq_self_eq_true, Bool.true_and]
  rw [decide_eq_true hl, Bool.true_and]
  simp [ht]

theorem spl_len : ∀ (t x : List UInt8), x ∈ spl t → x.length ≤ t.length
  | [], x, h => by simp [spl] at h; simp [h]
  | c :: t, x, h => by
    unfold spl at h
    split at h
    · rcases List.mem_cons.1 h with rfl | h
      · simp
      · have := spl_len t x h; simp; omega
    · cases hs : spl t with
      | nil => exact absurd hs (spl_ne t)
      | cons y r =>
        rw [hs] at h
        rcases List.mem_cons.1 h with rfl | h
        · have := spl_len t y (by rw [hs]; simp); simp; omega
        · have := spl_len t x (by rw [hs]; simp [h]); simp; omega
theorem spl_count : ∀ t : List UInt8, (spl t).length ≤ t.length + 1
  | [] => by simp [spl]
  | c :: t => by
    have := spl_count t
    unfold spl
    split
    · simp; omega
    · cases hs : spl t with
      | nil => simp
      | cons y r => rw [hs] at this; simp at this ⊢; omega

set_option maxRecDepth 8000 in
set_option maxHeartbeats 3200000 in
theorem parts_all (t : List UInt8) (w : World) (m : Int) (hm : w.cell? ⟨2, 0, none⟩ = some (.int .i64 m)) (_hw : 2 < w.heap.size) (ht : t ≠ []) (hl : (47 :: t : List UInt8).length ≤ 200) :
    Calls Tryz.prog 181 #[.string ⟨(47 :: t).toArray⟩] w fun e w' => (pchk (47 :: t) = true ∧ (∃ b, e = .returned (.tuple #[.slice (some ⟨b, 0, none⟩) (spl t).length (spl t).length, .bool true]) ∧ w.heap.size ≤ b ∧ b < w'.heap.size ∧ StrRow w' b (spl t)) ∨ pchk (47 :: t) = false ∧ e = .returned (.tuple #[.slice none 0 0, .bool false])) ∧ Fr NoB w w' := by
  rw [pchk_spl ht hl]
  obtain ⟨s1, s2⟩ := splitB_spl t.length t (Nat.le_refl _)
  have hcs := fun W h => Tryz.strings_Split (ByteArray.mk t.toArray) (ByteArray.mk #[47]) m W (by rw [mk_size]; simp at hl; omega) h (by decide)
  rw [s1, s2] at hcs
  have hs1 : (ByteArray.mk (47 :: t).toArray).extract 1 (ByteArray.mk (47 :: t).toArray).size = ⟨t.toArray⟩ := by
    rw [mk_ext, mk_size]; simp
  have hsz : (ByteArray.mk (47 :: t).toArray).size = t.length + 1 := by rw [mk_size]; rfl
  have hl3 : ((ByteArray.mk (47 :: t).toArray).toList == [47]) = false := by simpa using ht
  simp only [List.length_cons] at hl
  rw [hsz] at hs1
  have k2 : ∀ h : 0 < (ByteArray.mk (47 :: t).toArray).size, (((ByteArray.mk (47 :: t).toArray)[0]'h).toNat != 47) = false := fun h => by rw [mk_get]; rfl
  have k3 : ∀ h : 0 < (ByteArray.mk (47 :: t).toArray).size, ((((ByteArray.mk (47 :: t).toArray)[0]'h).toNat : Int) != 47) = false := fun h => by rw [mk_get]; rfl
  have k0 : ((t.length : Int) + 1 == 0) = false := by rw [beq_eq_false_iff_ne]; omega
  have k1 : (t.length : Int) + 1 ≤ 200 := by omega
  have hsp : ∀ x ∈ spl t, x.length ≤ 140737488355328 := fun x hx => Nat.le_trans (spl_len t x hx) (by omega)
  have hXn : (spl t).length ≤ 201 := by have := spl_count t; omega
  generalize hS : (ByteArray.mk (47 :: t).toArray) = S at *
  generalize hT : (ByteArray.mk t.toArray) = T at *
  generalize hn : t.length = n at *
  generalize hX : spl t = X at *
  clear s1 s2 hS hT hX hn ht
  go_enter Tryz.func181, Tryz.ntmps181
  go_wp2_with (with_reducible refine (hcs _ hm).mono ?_; rintro e w1 ⟨rfl, rfl⟩)
  go_loopw [5] (fun i W => ∃ k : Nat, i = .int .i64 (k : Int) ∧ k ≤ X.length ∧ (X.take k).all partOk = true ∧ Fr NoB w W ∧ w.heap.size < W.heap.size ∧ StrRow W w.heap.size X) (fun i _ => X.length - (intOf i).toNat)
  case atStart =>
    refine ⟨0, rfl, Nat.zero_le _, by simp, (Fr.refl _ _).alloc _, by simp, ?_⟩
    intro j x hx
    refine (World.cell?_alloc_mark w _ _ (0, 0) j).trans ?_
    simp [hx]
  case round =>
    obtain ⟨k, rfl, hk, ha, hf, hsz', hrow⟩ := hrel
    by_cases hlt : k < X.length
    · have hkx : X[k]? = some X[k] := List.getElem?_eq_getElem hlt
      have g1 := hrow k _ hkx
      have hcp := fun W => refpart_calls X[k] W (hsp _ (List.getElem_mem _))
      have hXl : (X.length : Int) ≤ 9223372036854775807 := by omega
      have hki : (k : Int) < (X.length : Int) := by omega
      have hsnd : (X.take (k + 1)).all partOk = partOk X[k] := by
        rw [List.take_add_one, List.all_append, ha, hkx]; simp
      by_cases ho : partOk X[k] = true
      · rw [ho] at hcp hsnd
        generalize ByteArray.mk X[k].toArray = Y at *
        go_wp2_with (with_reducible refine (hcp _).mono ?_; rintro e w2 ⟨rfl, f⟩)
        refine ⟨⟨k + 1, rfl, by omega, hsnd, hf.then f, Nat.lt_of_lt_of_le hsz' f.size, hrow.fr f hsz'⟩, by simp [intOf]; omega⟩
      · rw [Bool.not_eq_true] at ho
        have hall : X.all partOk = false := List.all_eq_false.2 ⟨X[k], List.getElem_mem _, by rw [ho]; decide⟩
        rw [ho] at hcp hsnd
        generalize ByteArray.mk X[k].toArray = Y at *
        go_wp2_with (with_reducible refine (hcp _).mono ?_; rintro e w2 ⟨rfl, f⟩)
        go_ret2
        exact ⟨.inr ⟨hall, rfl⟩, hf.then f⟩
    · obtain rfl : k = X.length := by omega
      rw [List.take_length] at ha
      go_wp2
      go_ret2
      exact ⟨.inl ⟨ha, ⟨w.heap.size, rfl, Nat.le_refl _, hsz', hrow⟩⟩, hf⟩

set_option maxRecDepth 8000 in
set_option maxHeartbeats 3200000 in
theorem parts_root (w : World) :
    Calls Tryz.prog 181 #[.string ⟨#[47]⟩] w fun e w' => e = .returned (.tuple #[.slice none 0 0, .bool true]) ∧ Fr NoB w w' := by
  go_enter Tryz.func181, Tryz.ntmps181
  go_wp2
  all_goals go_ret2
  all_goals exact ⟨rfl, Fr.refl _ _⟩
set_option maxRecDepth 8000 in
set_option maxHeartbeats 3200000 in
theorem parts_no (l : List UInt8) (w : World) (hl : l.length ≤ 140737488400000) (h : l = [] ∨ 200 < l.length ∨ ∃ c t, l = c :: t ∧ c ≠ 47) :
    Calls Tryz.prog 181 #[.string ⟨l.toArray⟩] w fun e w' => e = .returned (.tuple #[.slice none 0 0, .bool false]) ∧ Fr NoB w w' := by
  rcases h with rfl | h | ⟨c, t, rfl, hc⟩
  · go_enter Tryz.func181, Tryz.ntmps181
    go_wp2
    all_goals go_ret2
    all_goals exact ⟨rfl, Fr.refl _ _⟩
  · have hsz : (ByteArray.mk l.toArray).size = l.length := mk_size l
    generalize ByteArray.mk l.toArray = S at *
    generalize l.length = n at *
    have k1 : 200 < (n : Int) := by omega
    go_enter Tryz.func181, Tryz.ntmps181
    go_wp2
    all_goals go_ret2
    all_goals exact ⟨rfl, Fr.refl _ _⟩
  · have hsz : (ByteArray.mk (c :: t).toArray).size = t.length + 1 := by rw [mk_size]; rfl
    have k3 : ∀ h : 0 < (ByteArray.mk (c :: t).toArray).size, ((((ByteArray.mk (c :: t).toArray)[0]'h).toNat : Int) != 47) = true := fun h => by
      rw [mk_get]
      rw [bne_iff_ne]
      exact by47 hc
    have k0 : ((t.length : Int) + 1 == 0) = false := by rw [beq_eq_false_iff_ne]; omega
    simp only [List.length_cons] at hl
    generalize ByteArray.mk (c :: t).toArray = S at *
    generalize t.length = n at *
    go_enter Tryz.func181, Tryz.ntmps181
    go_wp2
    all_goals go_ret2
    all_goals exact ⟨rfl, Fr.refl _ _⟩

/-- Where the greatest length for a short search is written. -/
def Max (w : World) : Prop := (∃ m, w.cell? ⟨2, 0, none⟩ = some (.int .i64 m)) ∧ 2 < w.heap.size
theorem Max.fr {w w' : World} (h : Max w) (f : Fr NoB w w') : Max w' := by
  obtain ⟨⟨m, hm⟩, h0⟩ := h
  exact ⟨⟨m, (f.cell (p := ⟨2, 0, none⟩) h0 id).trans hm⟩, Nat.lt_of_lt_of_le h0 f.size⟩
/-- What Parts answers. -/
def PartsQ (l : List UInt8) (w : World) (e : Ending) (w' : World) : Prop :=
  (pchk l = false ∧ e = .returned (.tuple #[.slice none 0 0, .bool false])) ∨
  (l = [47] ∧ e = .returned (.tuple #[.slice none 0 0, .bool true])) ∨
  (pchk l = true ∧ l ≠ [47] ∧ ∃ b, e = .returned (.tuple #[.slice (some ⟨b, 0, none⟩) (spl (l.drop 1)).length (spl (l.drop 1)).length, .bool true]) ∧ w.heap.size ≤ b ∧ b < w'.heap.size ∧ StrRow w' b (spl (l.drop 1)))
theorem refparts_calls (l : List UInt8) (w : World) (hm : Max w) (hl : l.length ≤ 140737488400000) :
    Calls Tryz.prog 181 #[.string ⟨l.toArray⟩] w fun e w' => PartsQ l w e w' ∧ Fr NoB w w' := by
  by_cases hr : l = [47]
  · subst hr
    exact (parts_root w).mono fun e w' h => ⟨.inr (.inl ⟨rfl, h.1⟩), h.2⟩
  by_cases hn : l = [] ∨ 200 < l.length ∨ ∃ c t, l = c :: t ∧ c ≠ 47
  · refine (parts_no l w hl hn).mono fun e w' h => ⟨.inl ⟨?_, h.1⟩, h.2⟩
    rw [Bool.eq_false_iff]
    intro hx
    obtain ⟨t, rfl, h1, _⟩ := pchk_iff.1 hx
    rcases hn with h | h | ⟨c, t', h, hc⟩
    · cases h
    · omega
    · cases h; exact hc rfl
  · simp only [not_or] at hn
    obtain ⟨h1, h2, h3⟩ := hn
    obtain ⟨c, t, rfl⟩ : ∃ c t, l = c :: t := by cases l with | nil => exact absurd rfl h1 | cons c t => exact ⟨c, t, rfl⟩
    obtain rfl : c = 47 := Decidable.byContradiction fun hc => h3 ⟨c, t, rfl, hc⟩
    obtain ⟨⟨m, hmm⟩, h0⟩ := hm
    have ht : t ≠ [] := by rintro rfl; exact hr rfl
    refine (parts_all t w m hmm h0 ht (by omega)).mono fun e w' h => ⟨?_, h.2⟩
    rcases h.1 with ⟨k1, k2⟩ | k
    · exact .inr (.inr ⟨k1, hr, k2⟩)
    · exact .inl k

set_option maxRecDepth 8000 in
set_option maxHeartbeats 1600000 in
theorem refcheck_calls (l : List UInt8) (w : World) (hm : Max w) (hl : l.length ≤ 140737488400000) :
    Calls Tryz.prog 165 #[.string ⟨l.toArray⟩] w fun e w' => e = .returned (.bool (pchk l)) ∧ Fr NoB w w' := by
  have hc := refparts_calls l w hm hl
  generalize ByteArray.mk l.toArray = S at *
  go_enter Tryz.func165, Tryz.ntmps165
  go_wp2_with ((with_reducible refine hc.mono ?_); rintro e w1 ⟨⟨hk, rfl⟩ | ⟨hk, rfl⟩ | ⟨hk, hk2, b, rfl, hb⟩, f⟩)
  · go_ret; exact ⟨by rw [hk]; rfl, f⟩
  · go_ret; exact ⟨by rw [hk]; rfl, f⟩
  · go_ret; exact ⟨by rw [hk]; rfl, f⟩
end Go.Proofs.YtmlmbahimklfiaaGreatDoor

/-
  Ntp: the document's place.
-/
import Derived.Test.YtmgkenbfjlahpaaNto
namespace Go.Proofs.Ytmgkenbfjlahpaa
open Go.RowKit Go.WideMaps Go.Sort

def plI (V : PkV) (k : Lk) (n : Nat) : Int := match placeL V k n with | some i => (i : Int) | none => -1
theorem place_step {V : PkV} {k : Lk} {n m j : Nat} (x : Lk × Pk) (hd : V.drop j = x :: V.drop (j + 1)) (h : placeL V k n = (placeL (V.drop j) k m).map (· + j)) :
    (x.1 = k → m = 0 → plI V k n = (j : Int)) ∧ (∀ m', x.1 = k → m = m' + 1 → placeL V k n = (placeL (V.drop (j + 1)) k m').map (· + (j + 1))) ∧ (x.1 ≠ k → placeL V k n = (placeL (V.drop (j + 1)) k m).map (· + (j + 1))) := by
  rw [hd] at h
  refine ⟨fun h1 h2 => ?_, fun m' h1 h2 => ?_, fun h1 => ?_⟩
  · subst h2
    unfold plI
    rw [h]
    simp [placeL, h1]
  · subst h2
    rw [h]
    simp only [placeL, if_pos h1, Option.map_map]
    congr 1
    funext z
    simp only [Function.comp_apply]; omega
  · rw [h]
    simp only [placeL, if_neg h1, Option.map_map]
    congr 1
    funext z
    simp only [Function.comp_apply]; omega

set_option maxHeartbeats 3200000 in
theorem rplace_calls {w : World} {p : Nat} {v : Value} {V : PkV} {O : Nat → Prop} (h : RS w p v V O) (a b : Int) (n : Nat) (hl : V.length ≤ 1000000000) (hn : (n : Int) ≤ 9223372036854775807) :
    Calls Try.prog 67 #[.pointer (some ⟨p, 0, none⟩), .int .i64 a, .int .i64 b, .int .i64 (n : Int)] w fun e w' => e = .returned (.int .i64 (plI V (a, b) n)) ∧ w = w' := by
  obtain ⟨A, c, rfl, -, -⟩ := nown_form4 h.row
  have hc := h.cell
  have H := Lib.hid h
  clear h
  go_enter Try.func67, Try.ntmps67
  go_wp2
  go_loopw [3, 9] (fun s i W => ∃ j m : Nat, j ≤ V.length ∧ i = .int .i64 (j : Int) ∧ s = .int .i64 (m : Int) ∧ m ≤ n ∧ placeL V (a, b) n = (placeL (V.drop j) (a, b) m).map (· + j) ∧ w = W) (fun _ i _ => V.length - (intOf i).toNat)
  case atStart => exact ⟨0, n, Nat.zero_le _, rfl, rfl, Nat.le_refl _, by simp, rfl⟩
  case round =>
    obtain ⟨j, m, hj, rfl, rfl, hmn, hpl, rfl⟩ := hrel
    by_cases hlt : j < V.length
    · have hji : (j : Int) < (V.length : Int) := by omega
      have hj0 : (0 : Int) ≤ (j : Int) := by omega
      obtain ⟨g, c', hv⟩ := own_some H.out.row (by omega)
      cases hv
      obtain ⟨⟨⟨x1, x2⟩, x⟩, hx⟩ : ∃ x, V[j] = x := ⟨_, rfl⟩
      have hgx : V[j]? = some ((x1, x2), x) := by rw [List.getElem?_eq_getElem hlt, hx]
      obtain ⟨k0, k1, -⟩ := H.out.at_ hgx
      have hdr : V.drop j = ((x1, x2), x) :: V.drop (j + 1) := by rw [← hx]; exact List.drop_eq_getElem_cons hlt
      obtain ⟨p1, p2, p3⟩ := place_step _ hdr hpl
      simp only at k0 k1 p1 p2 p3
      have P1 := Lib.hid p1
      have P2 := Lib.hid p2
      have P3 := Lib.hid p3
      clear p1 p2 p3 hpl hdr hx hgx
      by_cases e1 : x1 = a
      · subst e1
        by_cases e2 : x2 = b
        · subst e2
          by_cases hm0 : m = 0
          · subst hm0
            have hr := P1.out rfl rfl
            clear P1 P2 P3
            go_wp2
            go_ret
            exact ⟨by rw [hr]; rfl, rfl⟩
          · obtain ⟨m', rfl⟩ : ∃ m', m = m' + 1 := ⟨m - 1, by omega⟩
            have hq : (((m' + 1 : Nat) : Int) == 0) = false := by rw [beq_eq_false_iff_ne]; omega
            have hw : wrap64 (((m' + 1 : Nat) : Int) - 1) = (m' : Int) := by unfold wrap64; omega
            have hw2 : wrap64 ((m' : Int) + 1 - 1) = (m' : Int) := by unfold wrap64; omega
            have hz : ¬ ((m' : Int) + 1 = 0) := by omega
            go_wp2
            go_roundw
            case rel => exact ⟨j + 1, m', by omega, by go_num, by go_num, by omega, P2.out m' rfl rfl, trivial⟩
            case measure => simp [intOf]; omega
        · have hq : (x2 == b) = false := by simpa using e2
          go_wp2
          go_roundw
          case rel => exact ⟨j + 1, m, by omega, by go_num, rfl, hmn, P3.out (fun e => e2 (Prod.mk.inj e).2), trivial⟩
          case measure => simp [intOf]; omega
      · have hq : (x1 == a) = false := by simpa using e1
        go_wp2
        go_roundw
        case rel => exact ⟨j + 1, m, by omega, by go_num, rfl, hmn, P3.out (fun e => e1 (Prod.mk.inj e).1), trivial⟩
        case measure => simp [intOf]; omega
    · obtain rfl : j = V.length := by omega
      have hr : plI V (a, b) n = -1 := by unfold plI; rw [hpl, List.drop_length]; rfl
      go_wp2
      go_ret
      exact ⟨by rw [hr]; rfl, rfl⟩

set_option maxHeartbeats 3200000 in
theorem rplace_any {w : World} {p : Nat} {v : Value} {V : PkV} {O : Nat → Prop} (h : RS w p v V O) (a b z : Int) (hl : V.length ≤ 1000000000) :
    Calls Try.prog 67 #[.pointer (some ⟨p, 0, none⟩), .int .i64 a, .int .i64 b, .int .i64 z] w fun e w' => (∃ r : Int, e = .returned (.int .i64 r)) ∧ w = w' := by
  obtain ⟨A, c, rfl, -, -⟩ := nown_form4 h.row
  have hc := h.cell
  have H := Lib.hid h
  clear h
  go_enter Try.func67, Try.ntmps67
  go_wp2
  go_loopw [3, 9] (fun s i W => ∃ (j : Nat) (z : Int), j ≤ V.length ∧ i = .int .i64 (j : Int) ∧ s = .int .i64 z ∧ w = W) (fun _ i _ => V.length - (intOf i).toNat)
  case atStart => exact ⟨0, z, Nat.zero_le _, rfl, rfl, rfl⟩
  case round =>
    obtain ⟨j, z, hj, rfl, rfl, rfl⟩ := hrel
    by_cases hlt : j < V.length
    · have hji : (j : Int) < (V.length : Int) := by omega
      have hj0 : (0 : Int) ≤ (j : Int) := by omega
      obtain ⟨g, c', hv⟩ := own_some H.out.row (by omega)
      cases hv
      obtain ⟨⟨⟨x1, x2⟩, x⟩, hx⟩ : ∃ x, V[j] = x := ⟨_, rfl⟩
      have hgx : V[j]? = some ((x1, x2), x) := by rw [List.getElem?_eq_getElem hlt, hx]
      obtain ⟨k0, k1, -⟩ := H.out.at_ hgx
      simp only at k0 k1
      clear hx hgx
      by_cases e1 : x1 = a
      · subst e1
        by_cases e2 : x2 = b
        · subst e2
          by_cases hm0 : z = 0
          · subst hm0
            go_wp2
            go_ret
            exact ⟨⟨_, rfl⟩, rfl⟩
          · have hq : (z == 0) = false := by simpa using hm0
            go_wp2
            go_roundw
            case rel => exact ⟨j + 1, _, by omega, by go_num, rfl, trivial⟩
            case measure => simp [intOf]; omega
        · have hq : (x2 == b) = false := by simpa using e2
          go_wp2
          go_roundw
          case rel => exact ⟨j + 1, z, by omega, by go_num, rfl, trivial⟩
          case measure => simp [intOf]; omega
      · have hq : (x1 == a) = false := by simpa using e1
        go_wp2
        go_roundw
        case rel => exact ⟨j + 1, z, by omega, by go_num, rfl, trivial⟩
        case measure => simp [intOf]; omega
    · obtain rfl : j = V.length := by omega
      go_wp2
      go_ret
      exact ⟨⟨_, rfl⟩, rfl⟩
end Go.Proofs.Ytmgkenbfjlahpaa

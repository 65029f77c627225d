/-
  Ptl: PathWhole answers true.
-/
import Derived.Test.YtbfcggcfabkbjaaPti
import Derived.Handy
namespace Go.Proofs.Ytbfcggcfabkbjaa
open Go.RowKit Go.Shelf

/-- How many steps a path stands from the root. -/
def dep (q : List UInt8) : Nat := if q = [47] then 0 else q.count 47
/-- One step up. -/
structure Up (q : List UInt8) : Prop where
  ck : chk (par q) = true
  jo : joi (par q) (bas q) = q
  un : und (par q) q = true
  no : (47 : UInt8) ∉ bas q
  de : dep (par q) + 1 = dep q
  le : (par q).length < q.length
  bl : (bas q).length ≤ q.length
theorem spl_all {t : List UInt8} (h : rp t = true) (ht : t ≠ []) : (spl t).all partOk = true := by
  unfold rp at h
  simpa [ht] using h
theorem up {q : List UInt8} (h : chk q = true) (hne : q ≠ [47]) : Up q := by
  obtain ⟨hm, hl⟩ := chk_slash h
  obtain ⟨r, b, rfl, hb⟩ := cutLast q hm
  obtain ⟨t, ht, _, hr⟩ := chk_iff.1 h
  have hpar : par (r ++ 47 :: b) = if r = [] then [47] else r := by
    unfold par; rw [if_pos ⟨h, hne⟩, upTo_eq r b hb]
  have hbas : bas (r ++ 47 :: b) = b := by
    unfold bas; rw [if_pos ⟨h, hne⟩, lastOf_eq r b hb]
  by_cases hr0 : r = []
  · subst hr0
    rw [if_pos rfl] at hpar
    have hbn : b ≠ [] := by rintro rfl; exact hne rfl
    simp only [List.nil_append, List.cons.injEq, true_and] at ht
    subst ht
    rw [rp_none hbn hb] at hr
    have hj : joi [47] b = 47 :: b := by
      unfold joi
      rw [if_pos ⟨chk_root, hr, by simpa [Lib.trimSuffix, Lib.hasSuffix] using hl⟩]
      rfl
    have hn : joi [47] b ≠ [] := by rw [hj]; simp
    obtain ⟨_, _, _, j4, _⟩ := joined hn
    rw [hj] at j4
    refine ⟨by rw [hpar]; exact chk_root, by rw [hpar, hbas]; exact hj, by rw [hpar]; exact j4, by rw [hbas]; exact hb, ?_, ?_, by rw [hbas]; simp⟩
    · rw [hpar]
      unfold dep
      rw [if_pos rfl, if_neg hne]
      simp [List.count_eq_zero_of_not_mem hb]
    · rw [hpar]
      cases b with
      | nil => exact absurd rfl hbn
      | cons x y => simp
  · rw [if_neg hr0] at hpar
    obtain ⟨c, r', rfl⟩ : ∃ c r', r = c :: r' := by cases r with | nil => exact absurd rfl hr0 | cons c r' => exact ⟨c, r', rfl⟩
    simp only [List.cons_append, List.cons.injEq] at ht
    obtain ⟨rfl, rfl⟩ := ht
    have ha := spl_all hr (by simp)
    rw [spl_app, spl_none hb, List.all_append, Bool.and_eq_true] at ha
    have hbo : partOk b = true := by simpa using ha.2
    have hrn : r' ≠ [] := by
      rintro rfl
      simp [spl, partOk] at ha
    have hck : chk (47 :: r') = true := chk_iff.2 ⟨r', rfl, by simp at hl ⊢; omega, by unfold rp; rw [ha.1]; simp⟩
    have hr1 : (47 :: r' : List UInt8) ≠ [47] := by simpa using hrn
    have hj : joi (47 :: r') b = 47 :: r' ++ 47 :: b := by
      unfold joi
      rw [trim_path hck hr1, if_pos ⟨hck, hbo, hl⟩]
    have hn : joi (47 :: r') b ≠ [] := by rw [hj]; simp
    obtain ⟨_, _, _, j4, _⟩ := joined hn
    rw [hj] at j4
    refine ⟨by rw [hpar]; exact hck, by rw [hpar, hbas]; exact hj, by rw [hpar]; exact j4, by rw [hbas]; exact hb, ?_, ?_, by rw [hbas]; simp; omega⟩
    · rw [hpar]
      unfold dep
      rw [if_neg hr1, if_neg hne]
      rw [List.count_append, List.count_cons_self, List.count_cons_self, List.count_eq_zero_of_not_mem hb]
    · rw [hpar]; simp
theorem dep_le (q : List UInt8) : dep q ≤ q.length := by
  unfold dep
  split
  · omega
  · exact List.count_le_length
theorem und_refl {q : List UInt8} (h : chk q = true) : und q q = true := und_iff.2 ⟨h, h, .inr (.inl rfl)⟩
theorem und_pre {q p : List UInt8} (h : und q p = true) (hne : q ≠ [47]) : q.isPrefixOf p = true := by
  obtain ⟨_, _, h⟩ := und_iff.1 h
  rw [List.isPrefixOf_iff_prefix]
  rcases h with h | rfl | h
  · exact absurd h hne
  · exact List.prefix_refl _
  · exact (List.prefix_append q [47]).trans h

/-- How long a text in a slot is. -/
def sLen : Value → Nat
  | .string s => s.size
  | _ => 0

set_option maxRecDepth 8000 in
set_option maxHeartbeats 3200000 in
theorem whole_no (p : List UInt8) (w : World) (hl : p.length ≤ 140737488355328) (hp : chk p = false) :
    Calls Try.prog 5 #[.string ⟨p.toArray⟩] w fun e w' => e = .returned (.bool true) ∧ Fr NoB w w' := by
  have hf : Fr NoB w w := Fr.refl _ _
  have c1 := fun W => check_calls p W (by omega)
  have c2 := fun W => parent_calls p W (by omega)
  have c3 := fun W => base_calls p W (by omega)
  have c4 := fun W => under_calls p p W (by omega) (by omega)
  have c5 := fun W => under_calls [47] p W (by decide) (by omega)
  rw [hp] at c1
  rw [show par p = [] by unfold par; rw [hp]; simp] at c2
  rw [show bas p = [] by unfold bas; rw [hp]; simp] at c3
  rw [show und p p = false by unfold und; rw [hp]; rfl] at c4
  rw [show und [47] p = false by unfold und; rw [hp]; simp] at c5
  generalize ByteArray.mk p.toArray = P at *
  go_enter Try.func5, Try.ntmps5
  go_wp2_with (first | (with_reducible refine (awake_calls _).mono ?_; rintro e w1 ⟨rfl, f⟩; replace hf := hf.then f; clear f) | (with_reducible refine (c1 _).mono ?_; rintro e w1 ⟨rfl, f⟩; replace hf := hf.then f; clear f) | (with_reducible refine (c2 _).mono ?_; rintro e w1 ⟨rfl, f⟩; replace hf := hf.then f; clear f) | (with_reducible refine (c3 _).mono ?_; rintro e w1 ⟨rfl, f⟩; replace hf := hf.then f; clear f) | (with_reducible refine (c4 _).mono ?_; rintro e w1 ⟨rfl, f⟩; replace hf := hf.then f; clear f) | (with_reducible refine (c5 _).mono ?_; rintro e w1 ⟨rfl, f⟩; replace hf := hf.then f; clear f))
  all_goals go_ret
  all_goals exact ⟨rfl, hf⟩

set_option maxRecDepth 8000 in
set_option maxHeartbeats 3200000 in
theorem whole_yes (p : List UInt8) (w : World) (hl : p.length ≤ 140737488355328) (hp : chk p = true) :
    Calls Try.prog 5 #[.string ⟨p.toArray⟩] w fun e w' => e = .returned (.bool true) ∧ Fr NoB w w' := by
  have hf : Fr NoB w w := Fr.refl _ _
  have c1 := fun W => check_calls p W (by omega)
  rw [hp] at c1
  have hpl := (chk_slash hp).2
  have cc := fun W => Try.strings_Count_one (ByteArray.mk p.toArray) 47 W
  have hend : (dep p : Int) = ((Lib.countByte (ByteArray.mk p.toArray).data.toList 47 : Nat) : Int) ∨ p = [47] := by
    by_cases h : p = [47]
    · exact .inr h
    · left; unfold dep; rw [if_neg h]; simp [Lib.countByte]
  go_enter Try.func5, Try.ntmps5
  go_wp2_with (first | (with_reducible refine (awake_calls _).mono ?_; rintro e w1 ⟨rfl, f⟩; replace hf := hf.then f; clear f) | (with_reducible refine (c1 _).mono ?_; rintro e w1 ⟨rfl, f⟩; replace hf := hf.then f; clear f))
  have hf0 := hf
  clear hf
  go_loopw [3, 4] (fun n' q' W => ∃ (k : Nat) (q : List UInt8), n' = .int .i64 (k : Int) ∧ q' = .string ⟨q.toArray⟩ ∧ und q p = true ∧ k + dep q = dep p ∧ Fr NoB w W) (fun _ q' _ => sLen q')
  case atStart => exact ⟨0, p, rfl, rfl, und_refl hp, by omega, hf0⟩
  case round =>
    obtain ⟨k, q, rfl, rfl, hu, hk, hf⟩ := hrel
    have hkl := dep_le p
    have hck := (und_iff.1 hu).1
    by_cases hr : q = [47]
    · subst hr
      have hk0 : (k : Int) = (dep p : Int) := by
        have : dep [47] = 0 := rfl
        omega
      rw [hk0]
      rcases hend with he | rfl
      · rw [← he] at cc
        generalize ByteArray.mk p.toArray = P at *
        go_wp2_with (with_reducible refine (cc _).mono ?_; rintro e w2 ⟨rfl, rfl⟩)
        all_goals go_ret
        all_goals exact ⟨rfl, hf⟩
      · go_wp2_with (with_reducible refine (cc _).mono ?_; rintro e w2 ⟨rfl, rfl⟩)
        all_goals go_ret
        all_goals exact ⟨rfl, hf⟩
    · obtain ⟨uc, uj, uu, un, ud, ul, ub⟩ := up hck hr
      have hql := (chk_slash hck).2
      have d1 := fun W => check_calls q W (by omega)
      rw [hck] at d1
      have d2 := fun W => parent_calls q W (by omega)
      have d3 := fun W => base_calls q W (by omega)
      have hbl : (bas q).length ≤ 200 := by omega
      have d4 := fun W => join_calls (par q) (bas q) W (by omega) (by omega)
      rw [uj] at d4
      have d5 := fun W => under_calls q p W (by omega) (by omega)
      rw [hu] at d5
      have d6 := fun W => under_calls p q W (by omega) (by omega)
      have d7 := fun W => Try.strings_Contains_one (ByteArray.mk (bas q).toArray) 47 W
      rw [show decide (0 ≤ Lib.indexByte (ByteArray.mk (bas q).toArray).data.toList 47) = false by
        rw [show (ByteArray.mk (bas q).toArray).data.toList = bas q by simp, ib_none un]; rfl] at d7
      have d8 := fun W => Try.strings_HasPrefix (ByteArray.mk p.toArray) (ByteArray.mk q.toArray) W
      rw [show Lib.hasPrefix (ByteArray.mk p.toArray).data.toList (ByteArray.mk q.toArray).data.toList = true by
        simpa [Lib.hasPrefix] using und_pre hu hr] at d8
      have hq47 : ((ByteArray.mk q.toArray).toList == [47]) = false := by simpa using hr
      have hqp : ((ByteArray.mk q.toArray).toList == (ByteArray.mk p.toArray).toList) = (q == p) := by simp
      have hpq : q ≠ p → und p q = false := fun h => by
        rw [Bool.eq_false_iff]
        exact fun hx => h (und_anti hu hx)
      have hrel : ∃ (k' : Nat) (q' : List UInt8), Value.int .i64 ((k : Int) + 1) = .int .i64 (k' : Int) ∧ Value.string ⟨(par q).toArray⟩ = .string ⟨q'.toArray⟩ ∧ und q' p = true ∧ k' + dep q' = dep p := ⟨k + 1, par q, rfl, rfl, und_trans uu hu, by omega⟩
      have hms : sLen (.string ⟨(par q).toArray⟩) < sLen (.string ⟨q.toArray⟩) := by simpa [sLen, mk_size] using ul
      have hk2 : k ≤ 200 := by omega
      have hkk := hk
      clear ud ul un uu uc uj hk hend hu hkl ub
      have hkm : k + dep q = dep p := hkk
      clear hkk
      by_cases he : q = p
      · rw [show (q == p) = true by simp [he]] at hqp
        clear hpq d6
        generalize ByteArray.mk q.toArray = Q at *
        generalize ByteArray.mk (par q).toArray = R at *
        generalize ByteArray.mk (bas q).toArray = B at *
        generalize ByteArray.mk p.toArray = P at *
        go_wp2_with (first | (with_reducible refine (d1 _).mono ?_; rintro e w1 ⟨rfl, f⟩; replace hf := hf.then f; clear f) | (with_reducible refine (d2 _).mono ?_; rintro e w1 ⟨rfl, f⟩; replace hf := hf.then f; clear f) | (with_reducible refine (d3 _).mono ?_; rintro e w1 ⟨rfl, f⟩; replace hf := hf.then f; clear f) | (with_reducible refine (d4 _).mono ?_; rintro e w1 ⟨rfl, f⟩; replace hf := hf.then f; clear f) | (with_reducible refine (d5 _).mono ?_; rintro e w1 ⟨rfl, f⟩; replace hf := hf.then f; clear f) | (with_reducible refine (d7 _).mono ?_; rintro e w1 ⟨rfl, rfl⟩) | (with_reducible refine (d8 _).mono ?_; rintro e w1 ⟨rfl, rfl⟩))
        obtain ⟨k', q', e1, e2, e3, e4⟩ := hrel
        exact ⟨⟨k', q', e1, e2, e3, e4, hf⟩, hms⟩
      · replace hpq := hpq he
        rw [hpq] at d6
        rw [show (q == p) = false by simp [he]] at hqp
        generalize ByteArray.mk q.toArray = Q at *
        generalize ByteArray.mk (par q).toArray = R at *
        generalize ByteArray.mk (bas q).toArray = B at *
        generalize ByteArray.mk p.toArray = P at *
        go_wp2_with (first | (with_reducible refine (d1 _).mono ?_; rintro e w1 ⟨rfl, f⟩; replace hf := hf.then f; clear f) | (with_reducible refine (d2 _).mono ?_; rintro e w1 ⟨rfl, f⟩; replace hf := hf.then f; clear f) | (with_reducible refine (d3 _).mono ?_; rintro e w1 ⟨rfl, f⟩; replace hf := hf.then f; clear f) | (with_reducible refine (d4 _).mono ?_; rintro e w1 ⟨rfl, f⟩; replace hf := hf.then f; clear f) | (with_reducible refine (d5 _).mono ?_; rintro e w1 ⟨rfl, f⟩; replace hf := hf.then f; clear f) | (with_reducible refine (d6 _).mono ?_; rintro e w1 ⟨rfl, f⟩; replace hf := hf.then f; clear f) | (with_reducible refine (d7 _).mono ?_; rintro e w1 ⟨rfl, rfl⟩) | (with_reducible refine (d8 _).mono ?_; rintro e w1 ⟨rfl, rfl⟩))
        obtain ⟨k', q', e1, e2, e3, e4⟩ := hrel
        exact ⟨⟨k', q', e1, e2, e3, e4, hf⟩, hms⟩

theorem whole_walk (p : List UInt8) (w : World) (hl : p.length ≤ 140737488355328) :
    Calls Try.prog 5 #[.string ⟨p.toArray⟩] w fun e w' => e = .returned (.bool true) ∧ Fr NoB w w' := by
  by_cases hp : chk p = true
  · exact whole_yes p w hl hp
  · exact whole_no p w hl (by simpa using hp)
end Go.Proofs.Ytbfcggcfabkbjaa

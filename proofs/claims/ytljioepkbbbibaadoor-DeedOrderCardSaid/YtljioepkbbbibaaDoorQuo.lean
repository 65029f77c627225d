/-
  Quo: configs and quorums in plain Lean; any two quorums have a voter in common; more servers keep a quorum. No program in sight.
-/
import Derived.Test.YtljioepkbbbibaaDoorBase
namespace Go.Proofs.YtljioepkbbbibaaDoor

/-- A member: its id, role, weight and group. -/
abbrev Mem := Int × Int × Int × Int
def fitsM (last : Int) (m : Mem) : Bool :=
  if m.1 ≤ last ∨ 7 < m.1 then false
  else if m.2.1 = 2 then decide (m.2.2.1 = 0 ∧ m.2.2.2 = 0)
  else decide (m.2.1 = 1 ∧ 0 ≤ m.2.2.1 ∧ m.2.2.1 ≤ 1000 ∧ 0 ≤ m.2.2.2 ∧ m.2.2.2 < 7)
def chkL : Int → Int → List Mem → Option Int
  | _, s, [] => some s
  | last, s, m :: l => if fitsM last m then chkL m.1 (s + m.2.2.1) l else none
def chk (v : Int) (ms : List Mem) : Int :=
  if 7 < ms.length then 3
  else match chkL 0 0 ms with
  | none => 140
  | some s => if s = 0 ∨ v < 0 ∨ 4611686018427387904 < v then 140 else 0
def wSum (p : Mem → Bool) : List Mem → Int
  | [] => 0
  | m :: l => (if p m then m.2.2.1 else 0) + wSum p l
def allG (ms : List Mem) (g : Nat) : Int := wSum (fun m => m.2.2.2 == (g : Int)) ms
def someG (ids : List Int) (ms : List Mem) (g : Nat) : Int := wSum (fun m => m.2.2.2 == (g : Int) && ids.contains m.1) ms
def cnt (p : Nat → Bool) : Nat → Int
  | 0 => 0
  | n + 1 => cnt p n + (if p n then 1 else 0)
def wins (ids : List Int) (ms : List Mem) (g : Nat) : Bool := decide (allG ms g < 2 * someG ids ms g)
def fullG (ms : List Mem) (g : Nat) : Bool := decide (0 < allG ms g)
def quoL (ms : List Mem) (ids : List Int) : Bool := decide (cnt (fullG ms) 7 < 2 * cnt (wins ids ms) 7)
def quo (v : Int) (ms : List Mem) (ids : List Int) : Bool := chk v ms == 0 && quoL ms ids

/-- What a right config's members are like. -/
def GoodM (m : Mem) : Prop := 1 ≤ m.1 ∧ m.1 ≤ 7 ∧ 0 ≤ m.2.2.1 ∧ m.2.2.1 ≤ 1000 ∧ 0 ≤ m.2.2.2 ∧ m.2.2.2 < 7 ∧ (m.2.1 = 1 ∨ m.2.1 = 2 ∧ m.2.2.1 = 0 ∧ m.2.2.2 = 0)
theorem fits_good {last : Int} {m : Mem} (h0 : 0 ≤ last) (h : fitsM last m = true) : GoodM m ∧ last < m.1 := by
  unfold fitsM at h
  unfold GoodM
  split at h
  · cases h
  · split at h
    · have := of_decide_eq_true h; omega
    · have := of_decide_eq_true h; omega
theorem chkL_good {last s t : Int} {ms : List Mem} (h0 : 0 ≤ last) (h : chkL last s ms = some t) : (∀ m ∈ ms, GoodM m) ∧ (∀ m ∈ ms, last < m.1) ∧ t = s + wSum (fun _ => true) ms := by
  induction ms generalizing last s with
  | nil => simp [chkL] at h; subst h; simp [wSum]
  | cons m l ih =>
    unfold chkL at h
    split at h
    · rename_i hf
      obtain ⟨g, hl⟩ := fits_good h0 hf
      have hg := g
      unfold GoodM at hg
      obtain ⟨i1, i2, i3⟩ := ih (by omega) h
      refine ⟨fun x hx => ?_, fun x hx => ?_, ?_⟩
      · rcases List.mem_cons.1 hx with rfl | hx
        · exact g
        · exact i1 x hx
      · rcases List.mem_cons.1 hx with rfl | hx
        · exact hl
        · have := i2 x hx; omega
      · rw [i3]; simp [wSum]; omega
    · cases h
theorem chk_good {v : Int} {ms : List Mem} (h : chk v ms = 0) : ∀ m ∈ ms, GoodM m := by
  unfold chk at h
  split at h
  · omega
  · split at h
    · omega
    · rename_i s hs
      exact (chkL_good (Int.le_refl 0) hs).1

theorem wSum_nonneg {ms : List Mem} (h : ∀ m ∈ ms, GoodM m) (p : Mem → Bool) : 0 ≤ wSum p ms := by
  induction ms with
  | nil => simp [wSum]
  | cons m l ih =>
    have := ih fun x hx => h x (by simp [hx])
    have hm := h m (by simp)
    unfold GoodM at hm
    unfold wSum
    split <;> omega
theorem wSum_le {ms : List Mem} (h : ∀ m ∈ ms, GoodM m) (p q : Mem → Bool) (hpq : ∀ m ∈ ms, 0 < m.2.2.1 → p m = true → q m = true) : wSum p ms ≤ wSum q ms := by
  induction ms with
  | nil => simp [wSum]
  | cons m l ih =>
    have := ih (fun x hx => h x (by simp [hx])) (fun x hx => hpq x (by simp [hx]))
    have hm := h m (by simp)
    unfold GoodM at hm
    have h1 := hpq m (by simp)
    unfold wSum
    cases hp : p m <;> cases hq : q m <;> simp
    · exact this
    · omega
    · by_cases h0 : 0 < m.2.2.1
      · have := h1 h0 hp; rw [hq] at this; cases this
      · omega
    · exact this
theorem wSum_eq {ms : List Mem} (h : ∀ m ∈ ms, GoodM m) (p q : Mem → Bool) (hpq : ∀ m ∈ ms, 0 < m.2.2.1 → p m = q m) : wSum p ms = wSum q ms := by
  have h1 := wSum_le h p q fun m hm h0 hp => by rw [← hpq m hm h0]; exact hp
  have h2 := wSum_le h q p fun m hm h0 hp => by rw [hpq m hm h0]; exact hp
  omega
theorem wSum_meet {ms : List Mem} (h : ∀ m ∈ ms, GoodM m) (p q r : Mem → Bool) (hs : wSum r ms < wSum p ms + wSum q ms) (hp : ∀ m, p m = true → r m = true) (hq : ∀ m, q m = true → r m = true) : ∃ m ∈ ms, 0 < m.2.2.1 ∧ p m = true ∧ q m = true := by
  induction ms with
  | nil => simp [wSum] at hs
  | cons m l ih =>
    have hm := h m (by simp)
    unfold GoodM at hm
    by_cases hx : 0 < m.2.2.1 ∧ p m = true ∧ q m = true
    · exact ⟨m, by simp, hx⟩
    · obtain ⟨x, h1, h2⟩ := ih (fun x hx => h x (by simp [hx])) (by
        unfold wSum at hs
        have hpm := hp m
        have hqm := hq m
        cases hpv : p m <;> cases hqv : q m <;> cases hrv : r m <;> simp [hpv, hqv, hrv] at hs hpm hqm hx ⊢ <;> omega)
      exact ⟨x, by simp [h1], h2⟩
theorem cnt_meet (p q r : Nat → Bool) (n : Nat) (hs : cnt r n < cnt p n + cnt q n) (hp : ∀ g, p g = true → r g = true) (hq : ∀ g, q g = true → r g = true) : ∃ g, g < n ∧ p g = true ∧ q g = true := by
  induction n with
  | zero => simp [cnt] at hs
  | succ n ih =>
    by_cases hx : p n = true ∧ q n = true
    · exact ⟨n, by omega, hx⟩
    · obtain ⟨g, h1, h2⟩ := ih (by
        unfold cnt at hs
        have hpm := hp n
        have hqm := hq n
        cases hpv : p n <;> cases hqv : q n <;> cases hrv : r n <;> simp [hpv, hqv, hrv] at hs hpm hqm hx ⊢ <;> omega)
      exact ⟨g, by omega, h2⟩
theorem cnt_le (p q : Nat → Bool) (n : Nat) (h : ∀ g, p g = true → q g = true) : cnt p n ≤ cnt q n := by
  induction n with
  | zero => simp [cnt]
  | succ n ih =>
    unfold cnt
    have := h n
    cases hp : p n <;> cases hq : q n <;> simp [hp, hq] at this ⊢ <;> omega
theorem wins_full {ms : List Mem} (h : ∀ m ∈ ms, GoodM m) (ids : List Int) (g : Nat) (hw : wins ids ms g = true) : fullG ms g = true := by
  unfold wins at hw
  unfold fullG
  have h1 := of_decide_eq_true hw
  have h2 : someG ids ms g ≤ allG ms g := wSum_le h _ _ fun m _ _ hp => by simp at hp ⊢; exact hp.1
  have h3 : 0 ≤ allG ms g := wSum_nonneg h _
  simp
  omega
theorem quo_meets {v : Int} {ms : List Mem} {a b : List Int} (ha : quo v ms a = true) (hb : quo v ms b = true) : ∃ m ∈ ms, m.2.1 = 1 ∧ 0 < m.2.2.1 ∧ a.contains m.1 = true ∧ b.contains m.1 = true := by
  unfold quo at ha hb
  rw [Bool.and_eq_true] at ha hb
  have hg := chk_good (eq_of_beq ha.1)
  have h1 := of_decide_eq_true ha.2
  have h2 := of_decide_eq_true hb.2
  obtain ⟨g, _, w1, w2⟩ := cnt_meet (wins a ms) (wins b ms) (fullG ms) 7 (by omega) (wins_full hg a) (wins_full hg b)
  have k1 := of_decide_eq_true w1
  have k2 := of_decide_eq_true w2
  obtain ⟨m, hm, h0, p1, p2⟩ := wSum_meet hg (fun m => m.2.2.2 == (g : Int) && a.contains m.1) (fun m => m.2.2.2 == (g : Int) && b.contains m.1) (fun m => m.2.2.2 == (g : Int)) (by
    have e1 : someG a ms g = wSum (fun m => m.2.2.2 == (g : Int) && a.contains m.1) ms := rfl
    have e2 : someG b ms g = wSum (fun m => m.2.2.2 == (g : Int) && b.contains m.1) ms := rfl
    have e3 : allG ms g = wSum (fun m => m.2.2.2 == (g : Int)) ms := rfl
    omega) (fun m h => by rw [Bool.and_eq_true] at h; exact h.1) (fun m h => by rw [Bool.and_eq_true] at h; exact h.1)
  rw [Bool.and_eq_true] at p1 p2
  have := hg m hm
  unfold GoodM at this
  exact ⟨m, hm, by omega, h0, p1.2, p2.2⟩
theorem wins_same {ms : List Mem} (h : ∀ m ∈ ms, GoodM m) (a b : List Int) (hab : ∀ m ∈ ms, 0 < m.2.2.1 → a.contains m.1 = b.contains m.1) (g : Nat) : wins a ms g = wins b ms g := by
  unfold wins someG
  rw [wSum_eq h _ (fun m => m.2.2.2 == (g : Int) && b.contains m.1) fun m hm h0 => by simp only [hab m hm h0]]
theorem quo_same {v : Int} {ms : List Mem} (a b : List Int) (hab : ∀ m ∈ ms, 0 < m.2.2.1 → a.contains m.1 = b.contains m.1) : quo v ms a = quo v ms b := by
  unfold quo
  cases hc : chk v ms == 0
  · rfl
  · have hg := chk_good (eq_of_beq hc)
    have : wins a ms = wins b ms := funext fun g => wins_same hg a b hab g
    unfold quoL
    rw [this]
theorem quo_more {v : Int} {ms : List Mem} (a b : List Int) (hab : ∀ x, a.contains x = true → b.contains x = true) (h : quo v ms a = true) : quo v ms b = true := by
  unfold quo at h ⊢
  rw [Bool.and_eq_true] at h ⊢
  have hg := chk_good (eq_of_beq h.1)
  refine ⟨h.1, ?_⟩
  have h2 := of_decide_eq_true h.2
  unfold quoL
  have h3 := cnt_le (wins a ms) (wins b ms) 7 fun g hw => by
    have k := of_decide_eq_true hw
    have e : someG a ms g ≤ someG b ms g := wSum_le hg _ _ fun m _ _ hp => by
      rw [Bool.and_eq_true] at hp ⊢
      exact ⟨hp.1, hab _ hp.2⟩
    unfold wins
    simp
    omega
  simp
  omega
theorem cnt_zero (p : Nat → Bool) (n : Nat) (h : ∀ g, p g = false) : cnt p n = 0 := by
  induction n with
  | zero => rfl
  | succ n ih => unfold cnt; rw [ih, h n]; rfl
theorem cnt_nonneg (p : Nat → Bool) (n : Nat) : 0 ≤ cnt p n := by
  induction n with
  | zero => simp [cnt]
  | succ n ih => unfold cnt; split <;> omega
theorem wSum_none (p : Mem → Bool) (ms : List Mem) (h : ∀ m, p m = false) : wSum p ms = 0 := by
  induction ms with
  | nil => rfl
  | cons m l ih => unfold wSum; rw [ih, h m]; rfl
theorem quo_nil (v : Int) (ms : List Mem) : quo v ms [] = false := by
  unfold quo
  cases hc : chk v ms == 0
  · rfl
  · have hg := chk_good (eq_of_beq hc)
    have h1 : cnt (wins [] ms) 7 = 0 := cnt_zero _ _ fun g => by
      have h2 : someG [] ms g = 0 := wSum_none _ _ fun m => by simp
      have h3 : 0 ≤ allG ms g := wSum_nonneg hg _
      unfold wins
      rw [h2]
      simp
      exact h3
    unfold quoL
    rw [h1]
    have := cnt_nonneg (fullG ms) 7
    simp
    exact this
/-- All voters of a right config are a quorum. -/
theorem wSum_pos {ms : List Mem} (h : ∀ m ∈ ms, GoodM m) (hs : wSum (fun _ => true) ms ≠ 0) : ∃ m ∈ ms, 0 < m.2.2.1 := by
  induction ms with
  | nil => simp [wSum] at hs
  | cons m l ih =>
    by_cases h0 : 0 < m.2.2.1
    · exact ⟨m, by simp, h0⟩
    · have hm := h m (by simp)
      unfold GoodM at hm
      obtain ⟨x, h1, h2⟩ := ih (fun x hx => h x (by simp [hx])) (by unfold wSum at hs; simp at hs; omega)
      exact ⟨x, by simp [h1], h2⟩
theorem wSum_in {ms : List Mem} (h : ∀ m ∈ ms, GoodM m) (p : Mem → Bool) {x : Mem} (hx : x ∈ ms) (hp : p x = true) : x.2.2.1 ≤ wSum p ms := by
  induction ms with
  | nil => cases hx
  | cons m l ih =>
    have hm := h m (by simp)
    unfold GoodM at hm
    have hl : ∀ y ∈ l, GoodM y := fun y hy => h y (by simp [hy])
    unfold wSum
    rcases List.mem_cons.1 hx with rfl | hx
    · have := wSum_nonneg hl p
      rw [hp]; simp; omega
    · have := ih hl hx
      split <;> omega
theorem cnt_in (p : Nat → Bool) (n g : Nat) (hg : g < n) (hp : p g = true) : 0 < cnt p n := by
  induction n with
  | zero => omega
  | succ n ih =>
    unfold cnt
    by_cases h : g = n
    · subst h
      have := cnt_nonneg p g
      rw [hp]; simp; omega
    · have := ih (by omega)
      split <;> omega
theorem quo_all {v : Int} {ms : List Mem} (a : List Int) (ha : ∀ m ∈ ms, m.2.1 = 1 → a.contains m.1 = true) : quo v ms a = (chk v ms == 0) := by
  unfold quo
  cases hc : chk v ms == 0
  · rfl
  · have h0 := eq_of_beq hc
    have hg := chk_good h0
    have hw : ∀ g, wins a ms g = fullG ms g := fun g => by
      have e : someG a ms g = allG ms g := wSum_eq hg _ _ fun m hm hm0 => by
        have := hg m hm
        unfold GoodM at this
        rw [ha m hm (by omega), Bool.and_true]
      unfold wins fullG
      rw [e]
      have : 0 ≤ allG ms g := wSum_nonneg hg _
      by_cases hx : 0 < allG ms g
      · simp [hx]; omega
      · simp [hx]; omega
    have hpos : 0 < cnt (fullG ms) 7 := by
      have hs : wSum (fun _ => true) ms ≠ 0 := by
        unfold chk at h0
        split at h0
        · omega
        · split at h0
          · omega
          · rename_i s hs
            have := (chkL_good (Int.le_refl 0) hs).2.2
            split at h0
            · omega
            · omega
      obtain ⟨m, hm, hm0⟩ := wSum_pos hg hs
      have hgm := hg m hm
      unfold GoodM at hgm
      have e : ((m.2.2.2.toNat : Nat) : Int) = m.2.2.2 := by omega
      refine cnt_in _ 7 m.2.2.2.toNat (by omega) ?_
      have h3 := wSum_in hg (fun x => x.2.2.2 == m.2.2.2) hm (by simp)
      unfold fullG allG
      rw [e]
      exact decide_eq_true (by omega)
    have hf : wins a ms = fullG ms := funext hw
    unfold quoL
    rw [hf]
    simp
    omega

end Go.Proofs.YtljioepkbbbibaaDoor

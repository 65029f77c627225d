/-
  Mem: Quo, Mem.
-/
import Derived.Test.YtlckgkpgllhpbaaDoorBase
/- Quo -/
namespace Go.Proofs.YtlckgkpgllhpbaaDoor

/-- A member: its id, role, weight and group. -/
abbrev Mem := Int × Int × Int × Int
def fitsM (last : Int) (m : Mem) : Bool :=
  if m.1 ≤ last ∨ 7 < m.1 then false
  else if m.2.1 = 2 then decide (m.2.2.1 = 0 ∧ m.2.2.2 = 0)
  else decide (m.2.1 = 1 ∧ 0 ≤ m.2.2.1 ∧ m.2.2.1 ≤ 1000 ∧ 0 ≤ m.2.2.2 ∧ m.2.2.2 < 7)
def chkL : Int → Int → List Mem → Option Int
  | _, s, [] => some s
  | last, s, m :: l => if fitsM last m then chkL m.1 (s + m.2.2.1) l else none
def chk (v : Int) (ms : List Mem) : Int :=
  if 7 < ms.length then 3
  else match chkL 0 0 ms with
  | none => 140
  | some s => if s = 0 ∨ v < 0 ∨ 4611686018427387904 < v then 140 else 0
def wSum (p : Mem → Bool) : List Mem → Int
  | [] => 0
  | m :: l => (if p m then m.2.2.1 else 0) + wSum p l
def allG (ms : List Mem) (g : Nat) : Int := wSum (fun m => m.2.2.2 == (g : Int)) ms
def someG (ids : List Int) (ms : List Mem) (g : Nat) : Int := wSum (fun m => m.2.2.2 == (g : Int) && ids.contains m.1) ms
def cnt (p : Nat → Bool) : Nat → Int
  | 0 => 0
  | n + 1 => cnt p n + (if p n then 1 else 0)
def wins (ids : List Int) (ms : List Mem) (g : Nat) : Bool := decide (allG ms g < 2 * someG ids ms g)
def fullG (ms : List Mem) (g : Nat) : Bool := decide (0 < allG ms g)
def quoL (ms : List Mem) (ids : List Int) : Bool := decide (cnt (fullG ms) 7 < 2 * cnt (wins ids ms) 7)
def quo (v : Int) (ms : List Mem) (ids : List Int) : Bool := chk v ms == 0 && quoL ms ids

/-- What a right config's members are like. -/
def GoodM (m : Mem) : Prop := 1 ≤ m.1 ∧ m.1 ≤ 7 ∧ 0 ≤ m.2.2.1 ∧ m.2.2.1 ≤ 1000 ∧ 0 ≤ m.2.2.2 ∧ m.2.2.2 < 7 ∧ (m.2.1 = 1 ∨ m.2.1 = 2 ∧ m.2.2.1 = 0 ∧ m.2.2.2 = 0)
theorem fits_good {last : Int} {m : Mem} (h0 : 0 ≤ last) (h : fitsM last m = true) : GoodM m ∧ last < m.1 := by
  unfold fitsM at h
  unfold GoodM
  split at h
  · cases h
  · split at h
    · have := of_decide_eq_true h; omega
    · have := of_decide_eq_true h; omega
theorem chkL_good {last s t : Int} {ms : List Mem} (h0 : 0 ≤ last) (h : chkL last s ms = some t) : (∀ m ∈ ms, GoodM m) ∧ (∀ m ∈ ms, last < m.1) ∧ t = s + wSum (fun _ => true) ms := by
  induction ms generalizing last s with
  | nil => simp [chkL] at h; subst h; simp [wSum]
  | cons m l ih =>
    unfold chkL at h
    split at h
    · rename_i hf
      obtain ⟨g, hl⟩ := fits_good h0 hf
      have hg := g
      unfold GoodM at hg
      obtain ⟨i1, i2, i3⟩ := ih (by omega) h
      refine ⟨fun x hx => ?_, fun x hx => ?_, ?_⟩
      · rcases List.mem_cons.1 hx with rfl | hx
        · exact g
        · exact i1 x hx
      · rcases List.mem_cons.1 hx with rfl | hx
        · exact hl
        · have := i2 x hx; omega
      · rw [i3]; simp [wSum]; omega
    · cases h
theorem chk_good {v : Int} {ms : List Mem} (h : chk v ms = 0) : ∀ m ∈ ms, GoodM m := by
  unfold chk at h
  split at h
  · omega
  · split at h
    · omega
    · rename_i s hs
      exact (chkL_good (Int.le_refl 0) hs).1

theorem wSum_nonneg {ms : List Mem} (h : ∀ m ∈ ms, GoodM m) (p : Mem → Bool) : 0 ≤ wSum p ms := by
  induction ms with
  | nil => simp [wSum]
  | cons m l ih =>
    have := ih fun x hx => h x (by simp [hx])
    have hm := h m (by simp)
    unfold GoodM at hm
    unfold wSum
    split <;> omega
theorem wSum_le {ms : List Mem} (h : ∀ m ∈ ms, GoodM m) (p q : Mem → Bool) (hpq : ∀ m ∈ ms, 0 < m.2.2.1 → p m = true → q m = true) : wSum p ms ≤ wSum q ms := by
  induction ms with
  | nil => simp [wSum]
  | cons m l ih =>
    have := ih (fun x hx => h x (by simp [hx])) (fun x hx => hpq x (by simp [hx]))
    have hm := h m (by simp)
    unfold GoodM at hm
    have h1 := hpq m (by simp)
    unfold wSum
    cases hp : p m <;> cases hq : q m <;> simp
    · exact this
    · omega
    · by_cases h0 : 0 < m.2.2.1
      · have := h1 h0 hp; rw [hq] at this; cases this
      · omega
    · exact this
theorem wSum_eq {ms : List Mem} (h : ∀ m ∈ ms, GoodM m) (p q : Mem → Bool) (hpq : ∀ m ∈ ms, 0 < m.2.2.1 → p m = q m) : wSum p ms = wSum q ms := by
  have h1 := wSum_le h p q fun m hm h0 hp => by rw [← hpq m hm h0]; exact hp
  have h2 := wSum_le h q p fun m hm h0 hp => by rw [hpq m hm h0]; exact hp
  omega
theorem wSum_meet {ms : List Mem} (h : ∀ m ∈ ms, GoodM m) (p q r : Mem → Bool) (hs : wSum r ms < wSum p ms + wSum q ms) (hp : ∀ m, p m = true → r m = true) (hq : ∀ m, q m = true → r m = true) : ∃ m ∈ ms, 0 < m.2.2.1 ∧ p m = true ∧ q m = true := by
  induction ms with
  | nil => simp [wSum] at hs
  | cons m l ih =>
    have hm := h m (by simp)
    unfold GoodM at hm
    by_cases hx : 0 < m.2.2.1 ∧ p m = true ∧ q m = true
    · exact ⟨m, by simp, hx⟩
    · obtain ⟨x, h1, h2⟩ := ih (fun x hx => h x (by simp [hx])) (by
        unfold wSum at hs
        have hpm := hp m
        have hqm := hq m
        cases hpv : p m <;> cases hqv : q m <;> cases hrv : r m <;> simp [hpv, hqv, hrv] at hs hpm hqm hx ⊢ <;> omega)
      exact ⟨x, by simp [h1], h2⟩
theorem cnt_meet (p q r : Nat → Bool) (n : Nat) (hs : cnt r n < cnt p n + cnt q n) (hp : ∀ g, p g = true → r g = true) (hq : ∀ g, q g = true → r g = true) : ∃ g, g < n ∧ p g = true ∧ q g = true := by
  induction n with
  | zero => simp [cnt] at hs
  | succ n ih =>
    by_cases hx : p n = true ∧ q n = true
    · exact ⟨n, by omega, hx⟩
    · obtain ⟨g, h1, h2⟩ := ih (by
        unfold cnt at hs
        have hpm := hp n
        have hqm := hq n
        cases hpv : p n <;> cases hqv : q n <;> cases hrv : r n <;> simp [hpv, hqv, hrv] at hs hpm hqm hx ⊢ <;> omega)
      exact ⟨g, by omega, h2⟩
theorem cnt_le (p q : Nat → Bool) (n : Nat) (h : ∀ g, p g = true → q g = true) : cnt p n ≤ cnt q n := by
  induction n with
  | zero => simp [cnt]
  | succ n ih =>
    unfold cnt
    have := h n
    cases hp : p n <;> cases hq : q n <;> simp [hp, hq] at this ⊢ <;> omega
theorem wins_full {ms : List Mem} (h : ∀ m ∈ ms, GoodM m) (ids : List Int) (g : Nat) (hw : wins ids ms g = true) : fullG ms g = true := by
  unfold wins at hw
  unfold fullG
  have h1 := of_decide_eq_true hw
  have h2 : someG ids ms g ≤ allG ms g := wSum_le h _ _ fun m _ _ hp => by simp at hp ⊢; exact hp.1
  have h3 : 0 ≤ allG ms g := wSum_nonneg h _
  simp
  omega
theorem quo_meets {v : Int} {ms : List Mem} {a b : List Int} (ha : quo v ms a = true) (hb : quo v ms b = true) : ∃ m ∈ ms, m.2.1 = 1 ∧ 0 < m.2.2.1 ∧ a.contains m.1 = true ∧ b.contains m.1 = true := by
  unfold quo at ha hb
  rw [Bool.and_eq_true] at ha hb
  have hg := chk_good (eq_of_beq ha.1)
  have h1 := of_decide_eq_true ha.2
  have h2 := of_decide_eq_true hb.2
  obtain ⟨g, _, w1, w2⟩ := cnt_meet (wins a ms) (wins b ms) (fullG ms) 7 (by omega) (wins_full hg a) (wins_full hg b)
  have k1 := of_decide_eq_true w1
  have k2 := of_decide_eq_true w2
  obtain ⟨m, hm, h0, p1, p2⟩ := wSum_meet hg (fun m => m.2.2.2 == (g : Int) && a.contains m.1) (fun m => m.2.2.2 == (g : Int) && b.contains m.1) (fun m => m.2.2.2 == (g : Int)) (by
    have e1 : someG a ms g = wSum (fun m => m.2.2.2 == (g : Int) && a.contains m.1) ms := rfl
    have e2 : someG b ms g = wSum (fun m => m.2.2.2 == (g : Int) && b.contains m.1) ms := rfl
    have e3 : allG ms g = wSum (fun m => m.2.2.2 == (g : Int)) ms := rfl
    omega) (fun m h => by rw [Bool.and_eq_true] at h; exact h.1) (fun m h => by rw [Bool.and_eq_true] at h; exact h.1)
  rw [Bool.and_eq_true] at p1 p2
  have := hg m hm
  unfold GoodM at this
  exact ⟨m, hm, by omega, h0, p1.2, p2.2⟩
theorem wins_same {ms : List Mem} (h : ∀ m ∈ ms, GoodM m) (a b : List Int) (hab : ∀ m ∈ ms, 0 < m.2.2.1 → a.contains m.1 = b.contains m.1) (g : Nat) : wins a ms g = wins b ms g := by
  unfold wins someG
  rw [wSum_eq h _ (fun m => m.2.2.2 == (g : Int) && b.contains m.1) fun m hm h0 => by simp only [hab m hm h0]]
theorem quo_same {v : Int} {ms : List Mem} (a b : List Int) (hab : ∀ m ∈ ms, 0 < m.2.2.1 → a.contains m.1 = b.contains m.1) : quo v ms a = quo v ms b := by
  unfold quo
  cases hc : chk v ms == 0
  · rfl
  · have hg := chk_good (eq_of_beq hc)
    have : wins a ms = wins b ms := funext fun g => wins_same hg a b hab g
    unfold quoL
    rw [this]
theorem quo_more {v : Int} {ms : List Mem} (a b : List Int) (hab : ∀ x, a.contains x = true → b.contains x = true) (h : quo v ms a = true) : quo v ms b = true := by
  unfold quo at h ⊢
  rw [Bool.and_eq_true] at h ⊢
  have hg := chk_good (eq_of_beq h.1)
  refine ⟨h.1, ?_⟩
  have h2 := of_decide_eq_true h.2
  unfold quoL
  have h3 := cnt_le (wins a ms) (wins b ms) 7 fun g hw => by
    have k := of_decide_eq_true hw
    have e : someG a ms g ≤ someG b ms g := wSum_le hg _ _ fun m _ _ hp => by
      rw [Bool.and_eq_true] at hp ⊢
      exact ⟨hp.1, hab _ hp.2⟩
    unfold wins
    simp
    omega
  simp
  omega
theorem cnt_zero (p : Nat → Bool) (n : Nat) (h : ∀ g, p g = false) : cnt p n = 0 := by
  induction n with
  | zero => rfl
  | succ n ih => unfold cnt; rw [ih, h n]; rfl
theorem cnt_nonneg (p : Nat → Bool) (n : Nat) : 0 ≤ cnt p n := by
  induction n with
  | zero => simp [cnt]
  | succ n ih => unfold cnt; split <;> omega
theorem wSum_none (p : Mem → Bool) (ms : List Mem) (h : ∀ m, p m = false) : wSum p ms = 0 := by
  induction ms with
  | nil => rfl
  | cons m l ih => unfold wSum; rw [ih, h m]; rfl
theorem quo_nil (v : Int) (ms : List Mem) : quo v ms [] = false := by
  unfold quo
  cases hc : chk v ms == 0
  · rfl
  · have hg := chk_good (eq_of_beq hc)
    have h1 : cnt (wins [] ms) 7 = 0 := cnt_zero _ _ fun g => by
      have h2 : someG [] ms g = 0 := wSum_none _ _ fun m => by simp
      have h3 : 0 ≤ allG ms g := wSum_nonneg hg _
      unfold wins
      rw [h2]
      simp
      exact h3
    unfold quoL
    rw [h1]
    have := cnt_nonneg (fullG ms) 7
    simp
    exact this
/-- All voters of a right config are a quorum. -/
theorem wSum_pos {ms : List Mem} (h : ∀ m ∈ ms, GoodM m) (hs : wSum (fun _ => true) ms ≠ 0) : ∃ m ∈ ms, 0 < m.2.2.1 := by
  induction ms with
  | nil => simp [wSum] at hs
  | cons m l ih =>
    by_cases h0 : 0 < m.2.2.1
    · exact ⟨m, by simp, h0⟩
    · have hm := h m (by simp)
      unfold GoodM at hm
      obtain ⟨x, h1, h2⟩ := ih (fun x hx => h x (by simp [hx])) (by unfold wSum at hs; simp at hs; omega)
      exact ⟨x, by simp [h1], h2⟩
theorem wSum_in {ms : List Mem} (h : ∀ m ∈ ms, GoodM m) (p : Mem → Bool) {x : Mem} (hx : x ∈ ms) (hp : p x = true) : x.2.2.1 ≤ wSum p ms := by
  induction ms with
  | nil => cases hx
  | cons m l ih =>
    have hm := h m (by simp)
    unfold GoodM at hm
    have hl : ∀ y ∈ l, GoodM y := fun y hy => h y (by simp [hy])
    unfold wSum
    rcases List.mem_cons.1 hx with rfl | hx
    · have := wSum_nonneg hl p
      rw [hp]; simp; omega
    · have := ih hl hx
      split <;> omega
theorem cnt_in (p : Nat → Bool) (n g : Nat) (hg : g < n) (hp : p g = true) : 0 < cnt p n := by
  induction n with
  | zero => omega
  | succ n ih =>
    unfold cnt
    by_cases h : g = n
    · subst h
      have := cnt_nonneg p g
      rw [hp]; simp; omega
    · have := ih (by omega)
      split <;> omega
theorem quo_all {v : Int} {ms : List Mem} (a : List Int) (ha : ∀ m ∈ ms, m.2.1 = 1 → a.contains m.1 = true) : quo v ms a = (chk v ms == 0) := by
  unfold quo
  cases hc : chk v ms == 0
  · rfl
  · have h0 := eq_of_beq hc
    have hg := chk_good h0
    have hw : ∀ g, wins a ms g = fullG ms g := fun g => by
      have e : someG a ms g = allG ms g := wSum_eq hg _ _ fun m hm hm0 => by
        have := hg m hm
        unfold GoodM at this
        rw [ha m hm (by omega), Bool.and_true]
      unfold wins fullG
      rw [e]
      have : 0 ≤ allG ms g := wSum_nonneg hg _
      by_cases hx : 0 < allG ms g
      · simp [hx]; omega
      · simp [hx]; omega
    have hpos : 0 < cnt (fullG ms) 7 := by
      have hs : wSum (fun _ => true) ms ≠ 0 := by
        unfold chk at h0
        split at h0
        · omega
        · split at h0
          · omega
          · rename_i s hs
            have := (chkL_good (Int.le_refl 0) hs).2.2
            split at h0
            · omega
            · omega
      obtain ⟨m, hm, hm0⟩ := wSum_pos hg hs
      have hgm := hg m hm
      unfold GoodM at hgm
      have e : ((m.2.2.2.toNat : Nat) : Int) = m.2.2.2 := by omega
      refine cnt_in _ 7 m.2.2.2.toNat (by omega) ?_
      have h3 := wSum_in hg (fun x => x.2.2.2 == m.2.2.2) hm (by simp)
      unfold fullG allG
      rw [e]
      exact decide_eq_true (by omega)
    have hf : wins a ms = fullG ms := funext hw
    unfold quoL
    rw [hf]
    simp
    omega

end Go.Proofs.YtlckgkpgllhpbaaDoor

/- Mem -/
namespace Go.Proofs.YtlckgkpgllhpbaaDoor
open Go.RowKit

/-- Numbers as the cells hold them. -/
def iv (l : List Int) : List Value := l.map fun x => .int .i64 x
@[simp] theorem iv_length (l : List Int) : (iv l).length = l.length := by simp [iv]
@[simp] theorem iv_nil : iv [] = [] := rfl
@[simp] theorem iv_append (a b : List Int) : iv (a ++ b) = iv a ++ iv b := by simp [iv]
theorem iv_one (l : List Int) : ∀ v ∈ iv l, v.oneCell' = true := by
  intro v hv
  obtain ⟨x, _, rfl⟩ := List.mem_map.1 hv
  rfl
theorem iv_get (l : List Int) (i : Nat) (h : i < l.length) : (iv l)[i]? = some (.int .i64 (l.getD i 0)) := by
  simp [iv, List.getD, h]

/-- The slice address A reads, in w, as the numbers l; its block lies from lo on, below hi. -/
def RdI (w : World) (lo hi : Nat) (A : Option Addr) (l : List Int) : Prop :=
  0 < l.length → ∃ b o, A = some ⟨b, o, none⟩ ∧ lo ≤ b ∧ b < hi ∧ ∀ i, i < l.length → w.cell? ⟨b, o + i, none⟩ = some (.int .i64 (l.getD i 0))
/-- The members ms lie from A on. -/
def RdM (w : World) (lo hi : Nat) (A : Option Addr) (ms : List Mem) : Prop :=
  0 < ms.length → ∃ b o, A = some ⟨b, o, none⟩ ∧ lo ≤ b ∧ b < hi ∧ ∀ i m, ms[i]? = some m →
    w.cell? ⟨b, o + i * 4, none⟩ = some (.int .i64 m.1) ∧ w.cell? ⟨b, o + i * 4 + 1, none⟩ = some (.int .u8 m.2.1) ∧ w.cell? ⟨b, o + i * 4 + 2, none⟩ = some (.int .i64 m.2.2.1) ∧ w.cell? ⟨b, o + i * 4 + 3, none⟩ = some (.int .i64 m.2.2.2)
section
variable {w w' : World} {lo hi : Nat} {A : Option Addr}
theorem RdI.nil (w : World) (lo hi : Nat) (A : Option Addr) : RdI w lo hi A [] := fun h => absurd h (by simp)
theorem RdM.nil (w : World) (lo hi : Nat) (A : Option Addr) : RdM w lo hi A [] := fun h => absurd h (by simp)
theorem RdI.keep {l : List Int} (h : RdI w lo hi A l) (hs : Same lo hi w w') : RdI w' lo hi A l := fun hl => by
  obtain ⟨b, o, e, h1, h2, hc⟩ := h hl
  exact ⟨b, o, e, h1, h2, fun i hi => (World.cell?_of_block (a := ⟨b, o + i, none⟩) (hs b h1 h2)).trans (hc i hi)⟩
theorem RdM.keep {l : List Mem} (h : RdM w lo hi A l) (hs : Same lo hi w w') : RdM w' lo hi A l := fun hl => by
  obtain ⟨b, o, e, h1, h2, hc⟩ := h hl
  refine ⟨b, o, e, h1, h2, fun i m hm => ?_⟩
  obtain ⟨k0, k1, k2, k3⟩ := hc i m hm
  exact ⟨(World.cell?_of_block (a := ⟨b, o + i * 4, none⟩) (hs b h1 h2)).trans k0, (World.cell?_of_block (a := ⟨b, o + i * 4 + 1, none⟩) (hs b h1 h2)).trans k1, (World.cell?_of_block (a := ⟨b, o + i * 4 + 2, none⟩) (hs b h1 h2)).trans k2, (World.cell?_of_block (a := ⟨b, o + i * 4 + 3, none⟩) (hs b h1 h2)).trans k3⟩
theorem RdI.fr {M : Nat → Prop} {l : List Int} (h : RdI w lo hi A l) (hf : Fr M w w') (hh : hi ≤ w.heap.size) (hm : ∀ k, lo ≤ k → k < hi → ¬ M k) : RdI w' lo hi A l := h.keep (hf.same hh hm)
theorem RdM.fr {M : Nat → Prop} {l : List Mem} (h : RdM w lo hi A l) (hf : Fr M w w') (hh : hi ≤ w.heap.size) (hm : ∀ k, lo ≤ k → k < hi → ¬ M k) : RdM w' lo hi A l := h.keep (hf.same hh hm)
theorem RdI.wide {l : List Int} {lo' hi' : Nat} (h : RdI w lo hi A l) (h1 : lo' ≤ lo) (h2 : hi ≤ hi') : RdI w lo' hi' A l := fun hl => by
  obtain ⟨b, o, e, k1, k2, hc⟩ := h hl
  exact ⟨b, o, e, by omega, by omega, hc⟩
theorem RdM.wide {l : List Mem} {lo' hi' : Nat} (h : RdM w lo hi A l) (h1 : lo' ≤ lo) (h2 : hi ≤ hi') : RdM w lo' hi' A l := fun hl => by
  obtain ⟨b, o, e, k1, k2, hc⟩ := h hl
  exact ⟨b, o, e, by omega, by omega, hc⟩
theorem RdI.srcs {l : List Int} (h : RdI w lo hi A l) : 0 < l.length → ∃ ad, A = some ad ∧ ∀ j u, (iv l)[j]? = some u → w.cell? (ad.add j) = some u := fun hl => by
  obtain ⟨b, o, rfl, _, _, hc⟩ := h hl
  refine ⟨_, rfl, fun j u hj => ?_⟩
  have hlt : j < l.length := by
    have := (List.getElem?_eq_some_iff.1 hj).1; simpa using this
  rw [Lib.addr_add, hc j hlt]
  rw [iv_get l j hlt] at hj
  exact hj
end
theorem own_rdi {w : World} {base e n c : Nat} {A : Option Addr} {l : List Int} (h : w.ownsRow base e 1 (.slice A n c) l.length (iv l)) : RdI w base w.heap.size A l := by
  intro hl
  rcases h.2 with ⟨_, h0⟩ | ⟨g, cap, cur, hv, hb, hh, h1, h2, h3, h4⟩
  · omega
  · cases hv
    refine ⟨g, 0, rfl, hb, Lib.lt_of_heap hh, fun i hi => ?_⟩
    have := h.cells (g := g) rfl i _ (iv_get l i hi)
    rwa [Lib.addr_add] at this
theorem rdi_block {w : World} {g : Nat} {cs : Array Value} {t : TypeId} {fr : Nat × Nat} {l : List Int} (h : w.heap[g]? = some (.cells cs t fr)) (hl : cs.toList.take l.length = iv l) : RdI w g (g + 1) (some ⟨g, 0, none⟩) l := fun _ =>
  ⟨g, 0, rfl, Nat.le_refl _, Nat.lt_succ_self _, fun i hi => by
    have := Lib.cells_of_row h l.length i _ (by rw [hl]; exact iv_get l i hi)
    rwa [Lib.addr_add] at this⟩
/-- Four cells for each member. -/
def mv : List Mem → List Value
  | [] => []
  | m :: l => .int .i64 m.1 :: .int .u8 m.2.1 :: .int .i64 m.2.2.1 :: .int .i64 m.2.2.2 :: mv l
theorem mv_length (l : List Mem) : (mv l).length = l.length * 4 := by
  induction l with
  | nil => rfl
  | cons m l ih => simp [mv, ih]; omega
theorem mv_append (a b : List Mem) : mv (a ++ b) = mv a ++ mv b := by
  induction a with
  | nil => rfl
  | cons m a ih => simp [mv, ih]
theorem mv_one (l : List Mem) : ∀ v ∈ mv l, v.oneCell' = true := by
  induction l with
  | nil => intro v hv; cases hv
  | cons m l ih =>
    intro v hv
    simp only [mv, List.mem_cons] at hv
    rcases hv with rfl | rfl | rfl | rfl | hv
    · rfl
    · rfl
    · rfl
    · rfl
    · exact ih v hv
theorem mv_get (l : List Mem) (i : Nat) (m : Mem) (h : l[i]? = some m) : (mv l)[i * 4]? = some (.int .i64 m.1) ∧ (mv l)[i * 4 + 1]? = some (.int .u8 m.2.1) ∧ (mv l)[i * 4 + 2]? = some (.int .i64 m.2.2.1) ∧ (mv l)[i * 4 + 3]? = some (.int .i64 m.2.2.2) := by
  induction l generalizing i with
  | nil => simp at h
  | cons x l ih =>
    cases i with
    | zero => simp at h; subst h; simp [mv]
    | succ i =>
      have := ih i (by simpa using h)
      simp only [mv, show (i + 1) * 4 = i * 4 + 1 + 1 + 1 + 1 by omega, show i * 4 + 1 + 1 + 1 + 1 + 1 = (i * 4 + 1) + 1 + 1 + 1 + 1 by omega, show i * 4 + 1 + 1 + 1 + 1 + 2 = (i * 4 + 2) + 1 + 1 + 1 + 1 by omega, show i * 4 + 1 + 1 + 1 + 1 + 3 = (i * 4 + 3) + 1 + 1 + 1 + 1 by omega, List.getElem?_cons_succ]
      exact this
theorem rdm_block {w : World} {g : Nat} {cs : Array Value} {t : TypeId} {fr : Nat × Nat} {l : List Mem} (h : w.heap[g]? = some (.cells cs t fr)) (hl : cs.toList.take (l.length * 4) = mv l) : RdM w g (g + 1) (some ⟨g, 0, none⟩) l := fun _ =>
  ⟨g, 0, rfl, Nat.le_refl _, Nat.lt_succ_self _, fun i m hm => by
    obtain ⟨k0, k1, k2, k3⟩ := mv_get l i m hm
    have c0 := Lib.cells_of_row h (l.length * 4) (i * 4) _ (by rw [hl]; exact k0)
    have c1 := Lib.cells_of_row h (l.length * 4) (i * 4 + 1) _ (by rw [hl]; exact k1)
    have c2 := Lib.cells_of_row h (l.length * 4) (i * 4 + 2) _ (by rw [hl]; exact k2)
    have c3 := Lib.cells_of_row h (l.length * 4) (i * 4 + 3) _ (by rw [hl]; exact k3)
    rw [Lib.addr_add] at c0 c1 c2 c3
    refine ⟨c0, ?_, ?_, ?_⟩
    · rw [Nat.add_assoc]; exact c1
    · rw [Nat.add_assoc]; exact c2
    · rw [Nat.add_assoc]; exact c3⟩
theorem own_rdm {w : World} {base e n c : Nat} {A : Option Addr} {l : List Mem} (h : w.ownsRow base e 4 (.slice A n c) l.length (mv l)) : RdM w base w.heap.size A l := by
  intro hl
  rcases h.2 with ⟨_, h0⟩ | ⟨g, cap, cur, hv, hb, hh, h1, h2, h3, h4⟩
  · omega
  · cases hv
    exact (rdm_block (l := l) hh h4).wide hb (Lib.lt_of_heap hh) hl

end Go.Proofs.YtlckgkpgllhpbaaDoor

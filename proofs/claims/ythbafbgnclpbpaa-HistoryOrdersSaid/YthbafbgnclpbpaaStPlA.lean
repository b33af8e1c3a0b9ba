/- A stable sort, told by places: plain. No program. -/
import Derived.Test.YthbafbgnclpbpaaPlDig
namespace Go.Proofs.Ythbafbgnclpbpaa

/-- The elements' order: by the key, then by the place that they came from. -/
def lx (key : Nat → Int) (x y : Nat) : Prop := key x < key y ∨ (key x = key y ∧ x < y)
theorem lx_trans {key : Nat → Int} {x y z : Nat} (h : lx key x y) (k : lx key y z) : lx key x z := by
  unfold lx at *
  omega
theorem lx_tot {key : Nat → Int} {x y : Nat} (h : ¬ lx key x y) (hn : x ≠ y) : lx key y x := by
  unfold lx at *
  omega
theorem lx_right {key : Nat → Int} {x y : Nat} (h : y < x) : lx key x y ↔ key x < key y := by
  unfold lx
  omega
theorem lx_ne {key : Nat → Int} {x y : Nat} (h : lx key x y) : x ≠ y := by
  rintro rfl
  unfold lx at h
  omega

/-- What lies at the places from a to b rises. -/
def Srt (key : Nat → Int) (p : Nat → Nat) (a b : Nat) : Prop := ∀ i j, a ≤ i → i < j → j < b → lx key (p i) (p j)
/-- What lies left of m came from places ahead of what lies right of it. -/
def Lft (p : Nat → Nat) (a m b : Nat) : Prop := ∀ i j, a ≤ i → i < m → m ≤ j → j < b → p i < p j
theorem Srt.sub {key : Nat → Int} {p : Nat → Nat} {a b a' b' : Nat} (h : Srt key p a b) (ha : a ≤ a') (hb : b' ≤ b) : Srt key p a' b' := fun i j h1 h2 h3 => h i j (by omega) h2 (by omega)

/-- p' is p with the places from a to b turned. -/
def PermOn (a b : Nat) (p p' : Nat → Nat) : Prop := ∃ σ τ : Nat → Nat, (∀ k, σ (τ k) = k) ∧ (∀ k, τ (σ k) = k) ∧ (∀ k, (k < a ∨ b ≤ k) → σ k = k) ∧ ∀ k, p' k = p (σ k)
theorem PermOn.refl (a b : Nat) (p : Nat → Nat) : PermOn a b p p := ⟨id, id, fun _ => rfl, fun _ => rfl, fun _ _ => rfl, fun _ => rfl⟩
theorem PermOn.trans {a b : Nat} {p q r : Nat → Nat} (h : PermOn a b p q) (k : PermOn a b q r) : PermOn a b p r := by
  obtain ⟨s, t, h1, h2, h3, h4⟩ := h
  obtain ⟨s', t', k1, k2, k3, k4⟩ := k
  exact ⟨fun i => s (s' i), fun i => t' (t i), fun i => by simp [k1, h1], fun i => by simp [h2, k2], fun i hi => by simp [k3 i hi, h3 i hi], fun i => by rw [k4, h4]⟩
theorem PermOn.mono {a b a' b' : Nat} {p q : Nat → Nat} (h : PermOn a b p q) (ha : a' ≤ a) (hb : b ≤ b') : PermOn a' b' p q := by
  obtain ⟨s, t, h1, h2, h3, h4⟩ := h
  exact ⟨s, t, h1, h2, fun k hk => h3 k (by omega), h4⟩
theorem PermOn.off {a b : Nat} {p q : Nat → Nat} (h : PermOn a b p q) {k : Nat} (hk : k < a ∨ b ≤ k) : q k = p k := by
  obtain ⟨s, t, h1, h2, h3, h4⟩ := h
  rw [h4, h3 k hk]
theorem PermOn.into {a b : Nat} {p q : Nat → Nat} (h : PermOn a b p q) {k : Nat} (h1 : a ≤ k) (h2 : k < b) : ∃ i, a ≤ i ∧ i < b ∧ q k = p i := by
  obtain ⟨s, t, g1, g2, g3, g4⟩ := h
  refine ⟨s k, ?_, ?_, g4 k⟩
  · refine Nat.le_of_not_lt fun hc => ?_
    have e := g3 (s k) (.inl hc)
    have := g2 (s k)
    rw [e] at this
    have h9 := g2 k
    omega
  · refine Nat.lt_of_not_le fun hc => ?_
    have e := g3 (s k) (.inr hc)
    have := g2 (s k)
    rw [e] at this
    have h9 := g2 k
    omega
theorem PermOn.back {a b : Nat} {p q : Nat → Nat} (h : PermOn a b p q) : PermOn a b q p := by
  obtain ⟨s, t, g1, g2, g3, g4⟩ := h
  refine ⟨t, s, g2, g1, fun k hk => ?_, fun k => by rw [g4, g1]⟩
  have h1 := g2 k
  rw [g3 k hk] at h1
  exact h1
theorem PermOn.inj {a b : Nat} {p q : Nat → Nat} (h : PermOn a b p q) (hp : ∀ i j, p i = p j → i = j) : ∀ i j, q i = q j → i = j := by
  obtain ⟨s, t, g1, g2, g3, g4⟩ := h
  intro i j e
  rw [g4, g4] at e
  have h1 := hp _ _ e
  rw [← g2 i, ← g2 j, h1]

/-- Two places change what they hold. -/
def swp (p : Nat → Nat) (i j : Nat) : Nat → Nat := fun k => if k = i then p j else if k = j then p i else p k
/-- The n places from x on change with those from y on. -/
def swapR (p : Nat → Nat) (x y n : Nat) : Nat → Nat := fun k => if x ≤ k ∧ k < x + n then p (k + (y - x)) else if y ≤ k ∧ k < y + n then p (k - (y - x)) else p k
/-- The places from m on to b come ahead of those from a on to m. -/
def rotF (p : Nat → Nat) (a m b : Nat) : Nat → Nat := fun k => if a ≤ k ∧ k < a + (b - m) then p (k + (m - a)) else if a + (b - m) ≤ k ∧ k < b then p (k - (b - m)) else p k
theorem swapR_zero (p : Nat → Nat) (x y : Nat) : swapR p x y 0 = p := by
  unfold swapR
  funext k
  (try dsimp only)
  repeat' split
  all_goals first
    | rfl
    | (exfalso; omega)
    | (congr 1; omega)
theorem swapR_succ (p : Nat → Nat) (x y n : Nat) (h : x + n < y) : swp (swapR p x y n) (x + n) (y + n) = swapR p x y (n + 1) := by
  unfold swapR swp
  funext k
  (try dsimp only)
  repeat' split
  all_goals first
    | rfl
    | (exfalso; omega)
    | (congr 1; omega)
theorem rot_left (p : Nat → Nat) (m i j : Nat) (hi : i ≤ m) (h : j < i) : rotF (swapR p (m - i) m j) (m - i + j) m (m + j) = rotF p (m - i) m (m + j) := by
  unfold rotF swapR
  funext k
  (try dsimp only)
  repeat' split
  all_goals first
    | rfl
    | (exfalso; omega)
    | (congr 1; omega)
theorem rot_right (p : Nat → Nat) (m i j : Nat) (hi : i ≤ m) (h : i < j) : rotF (swapR p (m - i) (m + j - i) i) (m - i) m (m + j - i) = rotF p (m - i) m (m + j) := by
  unfold rotF swapR
  funext k
  (try dsimp only)
  repeat' split
  all_goals first
    | rfl
    | (exfalso; omega)
    | (congr 1; omega)
theorem rot_end (p : Nat → Nat) (m i : Nat) (hi : i ≤ m) : rotF p (m - i) m (m + i) = swapR p (m - i) m i := by
  unfold rotF swapR
  funext k
  (try dsimp only)
  repeat' split
  all_goals first
    | rfl
    | (exfalso; omega)
    | (congr 1; omega)
theorem rot_nil (p : Nat → Nat) (a b : Nat) (h : a ≤ b) : rotF p a a b = p := by
  unfold rotF
  funext k
  (try dsimp only)
  repeat' split
  all_goals first
    | rfl
    | (exfalso; omega)
    | (congr 1; omega)
theorem rot_nil2 (p : Nat → Nat) (a b : Nat) : rotF p a b b = p := by
  unfold rotF
  funext k
  (try dsimp only)
  repeat' split
  all_goals first
    | rfl
    | (exfalso; omega)
    | (congr 1; omega)
theorem rot_down (p : Nat → Nat) (j i : Nat) (h : j < i) : swp (rotF p (j + 1) i (i + 1)) (j + 1) j = rotF p j i (i + 1) := by
  unfold rotF swp
  funext k
  (try dsimp only)
  repeat' split
  all_goals first
    | rfl
    | (exfalso; omega)
    | (congr 1; omega)
theorem rot_up (p : Nat → Nat) (a k : Nat) (h : a ≤ k) : swp (rotF p a (a + 1) (k + 1)) k (k + 1) = rotF p a (a + 1) (k + 2) := by
  unfold rotF swp
  funext k
  (try dsimp only)
  repeat' split
  all_goals first
    | rfl
    | (exfalso; omega)
    | (congr 1; omega)
theorem rot_lo (p : Nat → Nat) {a m b k : Nat} (h1 : a ≤ k) (h2 : k < a + (b - m)) : rotF p a m b k = p (k + (m - a)) := if_pos ⟨h1, h2⟩
theorem rot_hi (p : Nat → Nat) {a m b k : Nat} (h1 : a + (b - m) ≤ k) (h2 : k < b) : rotF p a m b k = p (k - (b - m)) := by
  unfold rotF
  rw [if_neg (by omega), if_pos ⟨h1, h2⟩]
theorem rot_off (p : Nat → Nat) {a m b k : Nat} (hm : a ≤ m) (hb : m ≤ b) (h : k < a ∨ b ≤ k) : rotF p a m b k = p k := by
  unfold rotF
  rw [if_neg (by omega), if_neg (by omega)]
theorem rot_inv (a m b k : Nat) (hm : a ≤ m) (hb : m ≤ b) : rotF (fun k => k) a m b (rotF (fun k => k) a (a + (b - m)) b k) = k := by
  rcases Nat.lt_or_ge k a with g | g
  · rw [rot_off _ (by omega) (by omega) (.inl g), rot_off _ hm hb (.inl g)]
  · rcases Nat.lt_or_ge k m with g2 | g2
    · rw [rot_lo _ g (by omega), rot_hi _ (by omega) (by omega)]
      omega
    · rcases Nat.lt_or_ge k b with g3 | g3
      · rw [rot_hi _ (by omega) g3, rot_lo _ (by omega) (by omega)]
        omega
      · rw [rot_off _ (by omega) (by omega) (.inr g3), rot_off _ hm hb (.inr g3)]
theorem rot_fun (p : Nat → Nat) (a m b k : Nat) : rotF p a m b k = p (rotF (fun k => k) a m b k) := by
  unfold rotF
  split
  · rfl
  · split <;> rfl
theorem rot_perm (p : Nat → Nat) {a m b : Nat} (hm : a ≤ m) (hb : m ≤ b) : PermOn a b p (rotF p a m b) := by
  refine ⟨rotF (fun k => k) a m b, rotF (fun k => k) a (a + (b - m)) b, fun k => rot_inv a m b k hm hb, fun k => ?_, fun k hk => rot_off _ hm hb hk, fun k => rot_fun p a m b k⟩
  have := rot_inv a (a + (b - m)) b k (by omega) (by omega)
  rw [show a + (b - (a + (b - m))) = m from by omega] at this
  exact this

/-- One more is put in where it belongs. -/
theorem ins_srt {key : Nat → Int} {p : Nat → Nat} {a i j : Nat} (hs : Srt key p a i) (hg : ∀ k, a ≤ k → k < i → p k < p i) (haj : a ≤ j) (hji : j ≤ i) (hup : ∀ k, j ≤ k → k < i → lx key (p i) (p k)) (hdn : a < j → ¬ lx key (p i) (p (j - 1))) : Srt key (rotF p j i (i + 1)) a (i + 1) := by
  have hlo : ∀ k, a ≤ k → k < j → lx key (p k) (p i) := by
    intro k h1 h2
    have h3 := lx_tot (hdn (by omega)) (by have := hg (j - 1) (by omega) (by omega); omega)
    by_cases e : k = j - 1
    · rw [e]; exact h3
    · exact lx_trans (hs k (j - 1) h1 (by omega) (by omega)) h3
  intro x y h1 h2 h3
  rcases Nat.lt_or_ge x j with gx | gx
  · rw [rot_off p hji (by omega) (.inl gx)]
    rcases Nat.lt_or_ge y j with gy | gy
    · rw [rot_off p hji (by omega) (.inl gy)]
      exact hs x y h1 h2 (by omega)
    · rcases Nat.lt_or_ge y (j + 1) with gy2 | gy2
      · rw [rot_lo p gy (by omega), show y + (i - j) = i from by omega]
        exact hlo x h1 gx
      · rw [rot_hi p (by omega) h3, show y - (i + 1 - i) = y - 1 from by omega]
        exact hs x (y - 1) h1 (by omega) (by omega)
  · rcases Nat.lt_or_ge x (j + 1) with gx2 | gx2
    · rw [rot_lo p gx (by omega), show x + (i - j) = i from by omega, rot_hi p (by omega) h3, show y - (i + 1 - i) = y - 1 from by omega]
      exact hup (y - 1) (by omega) (by omega)
    · rw [rot_hi p (by omega) (by omega), rot_hi p (by omega) h3, show y - (i + 1 - i) = y - 1 from by omega, show x - (i + 1 - i) = x - 1 from by omega]
      exact hs (x - 1) (y - 1) (by omega) (by omega) (by omega)

/-- The first goes into a row: the row's first i of it come ahead. -/
theorem one_srt {key : Nat → Int} {p : Nat → Nat} {a b i : Nat} (hs : Srt key p (a + 1) b) (hg : ∀ k, a < k → k < b → p a < p k) (h1 : a < i) (h2 : i ≤ b) (hlo : ∀ k, a < k → k < i → lx key (p k) (p a)) (hhi : i < b → ¬ lx key (p i) (p a)) : Srt key (rotF p a (a + 1) i) a b := by
  have hup : ∀ k, i ≤ k → k < b → lx key (p a) (p k) := by
    intro k g1 g2
    have h3 := lx_tot (hhi (by omega)) (by have := hg i h1 (by omega); omega)
    by_cases e : k = i
    · rw [e]; exact h3
    · exact lx_trans h3 (hs i k (by omega) (by omega) g2)
  intro x y g1 g2 g3
  rcases Nat.lt_or_ge x (i - 1) with gx | gx
  · rw [rot_lo p g1 (by omega), show x + (a + 1 - a) = x + 1 from by omega]
    rcases Nat.lt_or_ge y (i - 1) with gy | gy
    · rw [rot_lo p (by omega) (by omega), show y + (a + 1 - a) = y + 1 from by omega]
      exact hs (x + 1) (y + 1) (by omega) (by omega) (by omega)
    · rcases Nat.lt_or_ge y i with gy2 | gy2
      · rw [rot_hi p (by omega) gy2, show y - (i - (a + 1)) = a from by omega]
        exact hlo (x + 1) (by omega) (by omega)
      · rw [rot_off p (by omega) (by omega) (.inr gy2)]
        exact hs (x + 1) y (by omega) (by omega) g3
  · rcases Nat.lt_or_ge x i with gx2 | gx2
    · rw [rot_hi p (by omega) gx2, show x - (i - (a + 1)) = a from by omega, rot_off p (by omega) (by omega) (.inr (by omega))]
      exact hup y (by omega) g3
    · rw [rot_off p (by omega) (by omega) (.inr gx2), rot_off p (by omega) (by omega) (.inr (by omega))]
      exact hs x y (by omega) g2 g3

/-- What two halves hold once the middle is turned. -/
structure Halves (key : Nat → Int) (p : Nat → Nat) (a m b mid s : Nat) : Prop where
  l1 : Srt key p a s
  l2 : Srt key p s mid
  lf : Lft p a s mid
  r1 : Srt key p mid (mid + m - s)
  r2 : Srt key p (mid + m - s) b
  rf : Lft p mid (mid + m - s) b
  x : ∀ i j, a ≤ i → i < mid → mid ≤ j → j < b → lx key (p i) (p j)
/-- The search: s is where it stopped, between s0 and r0. -/
theorem halves {key : Nat → Int} {p : Nat → Nat} {a m b mid s s0 r0 : Nat} (ham : a < m) (hmb : m < b) (h1 : Srt key p a m) (h2 : Srt key p m b) (hl : Lft p a m b) (hmid : mid = (a + b) / 2)
    (h0 : s0 = if mid < m then mid + m - b else a) (hr : r0 = if mid < m then mid else m) (hs0 : s0 ≤ s) (hs1 : s ≤ r0)
    (hlo : ∀ c, s0 ≤ c → c < s → ¬ lx key (p (mid + m - 1 - c)) (p c)) (hhi : ∀ c, s ≤ c → c < r0 → lx key (p (mid + m - 1 - c)) (p c)) : Halves key (rotF p s m (mid + m - s)) a m b mid s := by
  have hx : (a ≤ s0 ∧ s ≤ m ∧ s ≤ mid ∧ mid + m - s ≤ b ∧ m ≤ mid + m - s ∧ mid < b ∧ a ≤ mid) ∧ (s0 = a ∨ mid + m - s0 = b) ∧ (r0 = m ∨ mid + m - r0 = m) := by
    split at h0 <;> rename_i g
    · rw [if_pos g] at hr
      refine ⟨⟨?_, ?_, ?_, ?_, ?_, ?_, ?_⟩, .inr ?_, .inr ?_⟩ <;> omega
    · rw [if_neg g] at hr
      refine ⟨⟨?_, ?_, ?_, ?_, ?_, ?_, ?_⟩, .inl ?_, .inl ?_⟩ <;> omega
  obtain ⟨⟨q1, q2, q3, q4, q5, q6, q7⟩, hc0, hcr⟩ := hx
  clear h0 hr hmid
  -- of the four parts' ends
  have hA : ∀ i j, a ≤ i → i < s → mid + m - s ≤ j → j < b → lx key (p i) (p j) := by
    intro i j g1 g2 g3 g4
    rcases Nat.lt_or_ge s0 s with e | e
    · have h3 := hlo (s - 1) (by omega) (by omega)
      rw [show mid + m - 1 - (s - 1) = mid + m - s from by omega] at h3
      have h4 := lx_tot h3 (by have := hl (s - 1) (mid + m - s) (by omega) (by omega) (by omega) (by omega); omega)
      have h5 : lx key (p i) (p (mid + m - s)) := by
        by_cases e2 : i = s - 1
        · rw [e2]; exact h4
        · exact lx_trans (h1 i (s - 1) g1 (by omega) (by omega)) h4
      by_cases e2 : j = mid + m - s
      · rw [e2]; exact h5
      · exact lx_trans h5 (h2 _ j (by omega) (by omega) g4)
    · exfalso
      rcases hc0 with e2 | e2 <;> omega
  have hB : ∀ i j, m ≤ i → i < mid + m - s → s ≤ j → j < m → lx key (p i) (p j) := by
    intro i j g1 g2 g3 g4
    rcases Nat.lt_or_ge s r0 with e | e
    · have h3 := hhi s (Nat.le_refl _) e
      have h5 : lx key (p i) (p s) := by
        by_cases e2 : i = mid + m - 1 - s
        · rw [e2]; exact h3
        · exact lx_trans (h2 i (mid + m - 1 - s) g1 (by omega) (by omega)) h3
      by_cases e2 : j = s
      · rw [e2]; exact h5
      · exact lx_trans h5 (h1 s j (by omega) (by omega) g4)
    · exfalso
      rcases hcr with e2 | e2 <;> omega
  -- where each place's element stood
  have P1 : ∀ k, k < s → rotF p s m (mid + m - s) k = p k := fun k g => rot_off p q2 q5 (.inl g)
  have P2 : ∀ k, s ≤ k → k < mid → rotF p s m (mid + m - s) k = p (k + (m - s)) := fun k g g' => rot_lo p g (by omega)
  have P3 : ∀ k, mid ≤ k → k < mid + m - s → rotF p s m (mid + m - s) k = p (k - (mid - s)) := fun k g g' => by
    rw [rot_hi p (by omega) g', show mid + m - s - m = mid - s from by omega]
  have P4 : ∀ k, mid + m - s ≤ k → rotF p s m (mid + m - s) k = p k := fun k g => rot_off p q2 q5 (.inr g)
  refine ⟨?_, ?_, ?_, ?_, ?_, ?_, ?_⟩
  · intro i j g1 g2 g3
    rw [P1 i (by omega), P1 j g3]
    exact h1 i j g1 g2 (by omega)
  · intro i j g1 g2 g3
    rw [P2 i g1 (by omega), P2 j (by omega) g3]
    exact h2 _ _ (by omega) (by omega) (by omega)
  · intro i j g1 g2 g3 g4
    rw [P1 i g2, P2 j g3 g4]
    exact hl _ _ g1 (by omega) (by omega) (by omega)
  · intro i j g1 g2 g3
    rw [P3 i g1 (by omega), P3 j (by omega) g3]
    exact h1 _ _ (by omega) (by omega) (by omega)
  · intro i j g1 g2 g3
    rw [P4 i g1, P4 j (by omega)]
    exact h2 i j (by omega) g2 g3
  · intro i j g1 g2 g3 g4
    rw [P3 i g1 g2, P4 j g3]
    exact hl _ _ (by omega) (by omega) (by omega) g4
  · intro i j g1 g2 g3 g4
    rcases Nat.lt_or_ge i s with gi | gi <;> rcases Nat.lt_or_ge j (mid + m - s) with gj | gj
    · rw [P1 i gi, P3 j g3 gj]
      exact h1 _ _ g1 (by omega) (by omega)
    · rw [P1 i gi, P4 j gj]
      exact hA i j g1 gi gj g4
    · rw [P2 i gi g2, P3 j g3 gj]
      exact hB _ _ (by omega) (by omega) (by omega) (by omega)
    · rw [P2 i gi g2, P4 j gj]
      exact h2 _ _ (by omega) (by omega) g4
theorem Halves.left {key : Nat → Int} {p : Nat → Nat} {a m b mid s : Nat} (h : Halves key p a m b mid s) (hn : ¬ (a < s ∧ s < mid)) : Srt key p a mid := by
  by_cases e : a < s
  · exact h.l1.sub (Nat.le_refl _) (by omega)
  · exact h.l2.sub (by omega) (Nat.le_refl _)
theorem Halves.right {key : Nat → Int} {p : Nat → Nat} {a m b mid s : Nat} (h : Halves key p a m b mid s) (hn : ¬ (mid < mid + m - s ∧ mid + m - s < b)) : Srt key p mid b := by
  by_cases e : mid < mid + m - s
  · exact h.r1.sub (Nat.le_refl _) (by omega)
  · exact h.r2.sub (by omega) (Nat.le_refl _)
/-- Both halves sorted: the whole is. -/
theorem srt_join {key : Nat → Int} {p q r : Nat → Nat} {a mid b : Nat} (hx : ∀ i j, a ≤ i → i < mid → mid ≤ j → j < b → lx key (p i) (p j)) (h1 : PermOn a mid p q) (h2 : Srt key q a mid) (h3 : PermOn mid b q r) (h4 : Srt key r mid b) : Srt key r a b := by
  intro i j g1 g2 g3
  rcases Nat.lt_or_ge j mid with gj | gj
  · rw [h3.off (.inl gj), h3.off (k := i) (.inl (by omega))]
    exact h2 i j g1 g2 gj
  · rcases Nat.lt_or_ge i mid with gi | gi
    · rw [h3.off (.inl gi)]
      obtain ⟨x, hx1, hx2, ex⟩ := h1.into g1 gi
      obtain ⟨y, hy1, hy2, ey⟩ := h3.into gj g3
      rw [ex, ey, h1.off (.inr hy1)]
      exact hx x y hx1 hx2 hy1 hy2
    · exact h4 i j gi g2 g3

end Go.Proofs.Ythbafbgnclpbpaa

namespace Go.Proofs.Ythbafbgnclpbpaa

/-- The last goes into a row. -/
theorem two_srt {key : Nat → Int} {p : Nat → Nat} {a m i : Nat} (hs : Srt key p a m) (hg : ∀ k, a ≤ k → k < m → p k < p m) (h1 : a ≤ i) (h2 : i ≤ m) (hlo : a < i → ¬ lx key (p m) (p (i - 1))) (hhi : i < m → lx key (p m) (p i)) : Srt key (rotF p i m (m + 1)) a (m + 1) := by
  refine ins_srt hs hg h1 h2 (fun k g1 g2 => ?_) hlo
  have h3 := hhi (by omega)
  by_cases e : k = i
  · rw [e]; exact h3
  · exact lx_trans h3 (hs i k h1 (by omega) g2)

/-- A block is sorted, and holds what it held. -/
def BlkOk (key : Nat → Int) (p : Nat → Nat) (lo hi : Nat) : Prop := Srt key p lo hi ∧ ∀ k, lo ≤ k → k < hi → lo ≤ p k ∧ p k < hi
theorem BlkOk.off {key : Nat → Int} {p q : Nat → Nat} {a b lo hi : Nat} (h : BlkOk key p lo hi) (hp : PermOn a b p q) (hd : hi ≤ a ∨ b ≤ lo) : BlkOk key q lo hi := by
  have e : ∀ k, lo ≤ k → k < hi → q k = p k := fun k h1 h2 => hp.off (by omega)
  refine ⟨fun i j h1 h2 h3 => ?_, fun k h1 h2 => ?_⟩
  · rw [e i h1 (by omega), e j (by omega) h3]
    exact h.1 i j h1 h2 h3
  · rw [e k h1 h2]
    exact h.2 k h1 h2
theorem blk_lft {key : Nat → Int} {p : Nat → Nat} {a m b : Nat} (h1 : BlkOk key p a m) (h2 : BlkOk key p m b) : Lft p a m b := by
  intro i j g1 g2 g3 g4
  have := (h1.2 i g1 g2).2
  have := (h2.2 j g3 g4).1
  omega
theorem blk_join {key : Nat → Int} {p q : Nat → Nat} {a m b : Nat} (ham : a ≤ m) (hmb : m ≤ b) (h1 : BlkOk key p a m) (h2 : BlkOk key p m b) (hp : PermOn a b p q) (hs : Srt key q a b) : BlkOk key q a b := by
  refine ⟨hs, fun k g1 g2 => ?_⟩
  obtain ⟨i, hi1, hi2, e⟩ := hp.into g1 g2
  rw [e]
  rcases Nat.lt_or_ge i m with g | g
  · have := h1.2 i hi1 g
    omega
  · have := h2.2 i g hi2
    omega
theorem dvd_next {c a b : Nat} (ha : c ∣ a) (hb : c ∣ b) (h : a < b) : a + c ≤ b := by
  have h1 : c ∣ b - a := Nat.dvd_sub hb ha
  have h2 := Nat.le_of_dvd (by omega) h1
  omega
/-- Blocks of 2 c ahead of a, blocks of c from a on. -/
def Lev (key : Nat → Int) (p : Nat → Nat) (c a n : Nat) : Prop :=
  (∀ lo, 2 * c ∣ lo → lo < a → lo < n → BlkOk key p lo (min (lo + 2 * c) n)) ∧ (∀ lo, c ∣ lo → a ≤ lo → lo < n → BlkOk key p lo (min (lo + c) n))
theorem Lev.step {key : Nat → Int} {p q : Nat → Nat} {c a n e : Nat} (h : Lev key p c a n) (hc : 0 < c) (ha : 2 * c ∣ a) (hn : a + c < n) (he : e = min (a + 2 * c) n) (hp : PermOn a e p q) (hs : Srt key q a e) : Lev key q c (a + 2 * c) n := by
  have hca : c ∣ a := Nat.dvd_trans (Nat.dvd_mul_left c 2) ha
  have h1 := h.2 a hca (Nat.le_refl _) (by omega)
  have h2 := h.2 (a + c) (Nat.dvd_add hca (Nat.dvd_refl c)) (by omega) hn
  rw [show min (a + c) n = a + c from by omega] at h1
  rw [show min (a + c + c) n = e from by omega] at h2
  refine ⟨fun lo g1 g2 g3 => ?_, fun lo g1 g2 g3 => ?_⟩
  · rcases Nat.lt_or_ge lo a with g | g
    · exact (h.1 lo g1 g g3).off hp (.inl (by have := dvd_next g1 ha g; omega))
    · have e2 : lo = a := by
        by_cases e3 : a = lo
        · exact e3.symm
        · have := dvd_next ha g1 (by omega)
          omega
      subst e2
      rw [← he]
      exact blk_join (by omega) (by omega) h1 h2 hp hs
  · exact (h.2 lo g1 (by omega) g3).off hp (.inr (by omega))
theorem Lev.up {key : Nat → Int} {p : Nat → Nat} {c a n : Nat} (h : Lev key p c a n) (ha : 2 * c ∣ a) (hn : n ≤ a + c) : Lev key p (2 * c) 0 n := by
  have hca : c ∣ a := Nat.dvd_trans (Nat.dvd_mul_left c 2) ha
  refine ⟨fun lo _ g _ => absurd g (Nat.not_lt_zero _), fun lo g1 _ g3 => ?_⟩
  rcases Nat.lt_or_ge lo a with g | g
  · exact h.1 lo g1 g g3
  · have e2 : lo = a := by
      by_cases e3 : a = lo
      · exact e3.symm
      · have := dvd_next ha g1 (by omega)
        omega
    subst e2
    have h1 := h.2 lo hca (Nat.le_refl _) g3
    rw [show min (lo + c) n = min (lo + 2 * c) n from by omega] at h1
    exact h1
theorem Lev.all {key : Nat → Int} {p : Nat → Nat} {c n : Nat} (h : Lev key p c 0 n) (hn : n ≤ c) : Srt key p 0 n := by
  rcases Nat.eq_zero_or_pos n with e | e
  · subst e
    intro i j _ _ g
    omega
  · have h1 := h.2 0 (Nat.dvd_zero c) (Nat.le_refl _) e
    rw [show min (0 + c) n = n from by omega] at h1
    exact h1.1

/-- What comes in rises by place. -/
def Inc (p : Nat → Nat) (a b : Nat) : Prop := ∀ i j, a ≤ i → i < j → j < b → p i < p j
/-- Blocks of c ahead of a are sorted; from a on all stands where it came from. -/
def Beg (key : Nat → Int) (p : Nat → Nat) (c a n : Nat) : Prop :=
  (∀ lo, c ∣ lo → lo < a → lo < n → BlkOk key p lo (min (lo + c) n)) ∧ ∀ k, a ≤ k → p k = k
theorem Beg.start (key : Nat → Int) (c n : Nat) : Beg key (fun k => k) c 0 n := ⟨fun _ _ g _ => absurd g (Nat.not_lt_zero _), fun _ _ => rfl⟩
theorem Beg.inc {key : Nat → Int} {p : Nat → Nat} {c a n : Nat} (h : Beg key p c a n) (e : Nat) : Inc p a e := fun i j h1 h2 _ => by
  rw [h.2 i h1, h.2 j (by omega)]
  exact h2
theorem Beg.step {key : Nat → Int} {p q : Nat → Nat} {c a n e : Nat} (h : Beg key p c a n) (ha : c ∣ a) (he : e = min (a + c) n) (hp : PermOn a e p q) (hs : Srt key q a e) : Beg key q c (a + c) n := by
  refine ⟨fun lo g1 g2 g3 => ?_, fun k g => by rw [hp.off (.inr (by omega)), h.2 k (by omega)]⟩
  rcases Nat.lt_or_ge lo a with g | g
  · exact (h.1 lo g1 g g3).off hp (.inl (by have := dvd_next g1 ha g; omega))
  · have e2 : lo = a := by
      by_cases e3 : a = lo
      · exact e3.symm
      · have := dvd_next ha g1 (by omega)
        omega
    subst e2
    rw [← he]
    refine ⟨hs, fun k h1 h2 => ?_⟩
    obtain ⟨i, hi1, hi2, ei⟩ := hp.into h1 h2
    rw [ei, h.2 i hi1]
    exact ⟨hi1, hi2⟩
theorem Beg.lev {key : Nat → Int} {p : Nat → Nat} {c a n : Nat} (h : Beg key p c a n) (hn : n ≤ a) : Lev key p c 0 n :=
  ⟨fun _ _ g _ => absurd g (Nat.not_lt_zero _), fun lo g1 _ g3 => h.1 lo g1 (by omega) g3⟩

end Go.Proofs.Ythbafbgnclpbpaa

namespace Go.Proofs.Ythbafbgnclpbpaa

/-- x is among the first m. -/
def Taken (p : Nat → Nat) (m x : Nat) : Prop := ∃ k, k < m ∧ p k = x
/-- The best of those below i that are not taken. -/
def Best (key : Nat → Int) (p : Nat → Nat) (m i : Nat) (b : Int) : Prop :=
  (b = -1 ∧ ∀ x, x < i → Taken p m x) ∨ (∃ y : Nat, y < i ∧ b = (y : Int) ∧ ¬ Taken p m y ∧ ∀ x, x < i → ¬ Taken p m x → x = y ∨ lx key y x)
theorem Best.start (key : Nat → Int) (p : Nat → Nat) (m : Nat) : Best key p m 0 (-1) := .inl ⟨rfl, fun _ h => absurd h (Nat.not_lt_zero _)⟩
theorem Best.skip {key : Nat → Int} {p : Nat → Nat} {m i : Nat} {b : Int} (h : Best key p m i b) (ht : Taken p m i) : Best key p m (i + 1) b := by
  rcases h with ⟨e, h⟩ | ⟨y, h1, e, h2, h3⟩
  · refine .inl ⟨e, fun x hx => ?_⟩
    by_cases q : x = i
    · rw [q]; exact ht
    · exact h x (by omega)
  · refine .inr ⟨y, by omega, e, h2, fun x hx hn => ?_⟩
    by_cases q : x = i
    · exact absurd (q ▸ ht) hn
    · exact h3 x (by omega) hn
theorem Best.first {key : Nat → Int} {p : Nat → Nat} {m i : Nat} {b : Int} (h : Best key p m i b) (hb : b < 0) (ht : ¬ Taken p m i) : Best key p m (i + 1) (i : Int) := by
  rcases h with ⟨_, h⟩ | ⟨y, _, e, _, _⟩
  · refine .inr ⟨i, by omega, rfl, ht, fun x hx hn => ?_⟩
    by_cases q : x = i
    · exact .inl q
    · exact absurd (h x (by omega)) hn
  · omega
theorem Best.at_ {key : Nat → Int} {p : Nat → Nat} {m i : Nat} {b : Int} (h : Best key p m i b) (hb : ¬ b < 0) : ∃ y : Nat, y < i ∧ b = (y : Int) := by
  rcases h with ⟨e, _⟩ | ⟨y, h1, e, _, _⟩
  · omega
  · exact ⟨y, h1, e⟩
theorem Best.less {key : Nat → Int} {p : Nat → Nat} {m i y : Nat} (h : Best key p m i (y : Int)) (ht : ¬ Taken p m i) (hk : key i < key y) : Best key p m (i + 1) (i : Int) := by
  rcases h with ⟨e, _⟩ | ⟨z, h1, e, h2, h3⟩
  · omega
  · obtain rfl : y = z := by omega
    have hl : lx key i y := .inl hk
    refine .inr ⟨i, by omega, rfl, ht, fun x hx hn => ?_⟩
    by_cases q : x = i
    · exact .inl q
    · rcases h3 x (by omega) hn with r | r
      · rw [r]; exact .inr hl
      · exact .inr (lx_trans hl r)
theorem Best.keep {key : Nat → Int} {p : Nat → Nat} {m i y : Nat} (h : Best key p m i (y : Int)) (hk : ¬ key i < key y) : Best key p m (i + 1) (y : Int) := by
  rcases h with ⟨e, _⟩ | ⟨z, h1, e, h2, h3⟩
  · omega
  · obtain rfl : y = z := by omega
    refine .inr ⟨y, by omega, rfl, h2, fun x hx hn => ?_⟩
    by_cases q : x = i
    · subst q
      exact .inr (lx_tot (fun r => hk ((lx_right h1).1 r)) (by omega))
    · exact h3 x (by omega) hn
theorem Best.done {key : Nat → Int} {p : Nat → Nat} {m n : Nat} {b : Int} (hp : PermOn 0 n (fun k => k) p) (hs : Srt key p 0 n) (hm : m < n) (h : Best key p m n b) : b = (p m : Int) := by
  have hin := hp.inj (fun _ _ e => e)
  have hnt : ¬ Taken p m (p m) := by
    rintro ⟨k, hk, e⟩
    have := hin _ _ e
    omega
  obtain ⟨i, _, hi2, ei⟩ := hp.into (Nat.zero_le m) hm
  have hmn : p m < n := by rw [ei]; exact hi2
  rcases h with ⟨_, h⟩ | ⟨y, h1, e, h2, h3⟩
  · exact absurd (h (p m) hmn) hnt
  · rcases h3 (p m) hmn hnt with q | q
    · rw [e, q]
    · exfalso
      obtain ⟨k, _, hk2, ek⟩ := hp.back.into (Nat.zero_le y) h1
      have ek : y = p k := ek
      have hkm : ¬ k < m := fun r => h2 ⟨k, r, ek.symm⟩
      rcases Nat.eq_or_lt_of_not_lt hkm with r | r
      · subst r
        rw [← ek] at q
        exact (lx_ne q) rfl
      · have h5 := hs m k (Nat.zero_le _) r hk2
        rw [← ek] at h5
        exact (lx_ne (lx_trans h5 q)) rfl

end Go.Proofs.Ythbafbgnclpbpaa

namespace Go.Proofs.Ythbafbgnclpbpaa

theorem sea_lo {key : Nat → Int} {p : Nat → Nat} {a m b : Nat} (h1 : Srt key p a m) (h2 : Srt key p m b) {c c' q q' : Nat} (ha : a ≤ c') (hc : c' < c) (hm : c < m) (hq : m ≤ q) (hqq : q < q') (hb : q' < b) (h : ¬ lx key (p q) (p c)) : ¬ lx key (p q') (p c') :=
  fun k => h (lx_trans (lx_trans (h2 q q' hq hqq hb) k) (h1 c' c ha hc hm))
theorem sea_hi {key : Nat → Int} {p : Nat → Nat} {a m b : Nat} (h1 : Srt key p a m) (h2 : Srt key p m b) {c c' q q' : Nat} (ha : a ≤ c) (hc : c < c') (hm : c' < m) (hq : m ≤ q') (hqq : q' < q) (hb : q < b) (h : lx key (p q) (p c)) : lx key (p q') (p c') :=
  lx_trans (h2 q' q hq hqq hb) (lx_trans h (h1 c c' ha hc hm))
theorem sea_rng {a m b mid s0 r0 x : Nat} (ham : a < m) (hmb : m < b) (hmid : mid = (a + b) / 2) (h0 : s0 = if mid < m then mid + m - b else a) (hr : r0 = if mid < m then mid else m) (h1 : s0 ≤ x) (h2 : x < r0) : a ≤ x ∧ x < m ∧ m ≤ mid + m - 1 - x ∧ mid + m - 1 - x < b ∧ x + 1 ≤ mid + m := by
  split at h0 <;> rename_i g
  · rw [if_pos g] at hr
    omega
  · rw [if_neg g] at hr
    omega
theorem sea_rng2 {a m b mid s0 r0 x : Nat} (ham : a < m) (hmb : m < b) (hmid : mid = (a + b) / 2) (h0 : s0 = if mid < m then mid + m - b else a) (hr : r0 = if mid < m then mid else m) (h1 : s0 ≤ x) (h2 : x ≤ r0) : a ≤ x ∧ x ≤ m ∧ x ≤ mid ∧ m ≤ mid + m - x ∧ mid + m - x ≤ b ∧ a < mid ∧ mid < b ∧ s0 ≤ r0 ∧ b ≤ mid + m + (b - (mid + m - s0)) := by
  split at h0 <;> rename_i g
  · rw [if_pos g] at hr
    omega
  · rw [if_neg g] at hr
    omega
theorem srt_off {key : Nat → Int} {q r : Nat → Nat} {a b lo hi : Nat} (h : Srt key q lo hi) (hp : PermOn a b q r) (hb : b ≤ lo) : Srt key r lo hi := fun i j g1 g2 g3 => by
  rw [hp.off (.inr (by omega)), hp.off (k := j) (.inr (by omega))]
  exact h i j g1 g2 g3
theorem lft_off {q r : Nat → Nat} {a b lo md hi : Nat} (h : Lft q lo md hi) (hp : PermOn a b q r) (hb : b ≤ lo) (hm : lo ≤ md) : Lft r lo md hi := fun i j g1 g2 g3 g4 => by
  rw [hp.off (.inr (by omega)), hp.off (k := j) (.inr (by omega))]
  exact h i j g1 g2 g3 g4
theorem mono_ex {P : Nat → Prop} {r0 : Nat} : ∀ (d s0 : Nat), d = r0 - s0 → s0 ≤ r0 → (∀ c c', s0 ≤ c → c < c' → c' < r0 → P c → P c') → ∃ s, s0 ≤ s ∧ s ≤ r0 ∧ (∀ c, s0 ≤ c → c < s → ¬ P c) ∧ ∀ c, s ≤ c → c < r0 → P c
  | 0, s0, hd, hle, _ => ⟨s0, Nat.le_refl _, hle, fun c h1 h2 => by omega, fun c h1 h2 => by omega⟩
  | d + 1, s0, hd, hle, hm => by
    by_cases h : P s0
    · exact ⟨s0, Nat.le_refl _, hle, fun c h1 h2 => by omega, fun c h1 h2 => by
        by_cases e : c = s0
        · rw [e]; exact h
        · exact hm s0 c (Nat.le_refl _) (by omega) h2 h⟩
    · obtain ⟨s, g1, g2, g3, g4⟩ := mono_ex (P := P) (r0 := r0) d (s0 + 1) (by omega) (by omega) (fun c c' h1 h2 h3 h4 => hm c c' (by omega) h2 h3 h4)
      exact ⟨s, by omega, g2, fun c h1 h2 => by
        by_cases e : c = s0
        · rw [e]; exact h
        · exact g3 c (by omega) h2, g4⟩
theorem sea_ex {key : Nat → Int} {p : Nat → Nat} {a m b mid s0 r0 : Nat} (ham : a < m) (hmb : m < b) (h1 : Srt key p a m) (h2 : Srt key p m b) (hmid : mid = (a + b) / 2) (h0 : s0 = if mid < m then mid + m - b else a) (hr : r0 = if mid < m then mid else m) :
    ∃ s, s0 ≤ s ∧ s ≤ r0 ∧ (∀ c, s0 ≤ c → c < s → ¬ lx key (p (mid + m - 1 - c)) (p c)) ∧ ∀ c, s ≤ c → c < r0 → lx key (p (mid + m - 1 - c)) (p c) := by
  have hle : s0 ≤ r0 := by
    split at h0 <;> rename_i g
    · rw [if_pos g] at hr; omega
    · rw [if_neg g] at hr; omega
  refine mono_ex (P := fun c => lx key (p (mid + m - 1 - c)) (p c)) (r0 - s0) s0 rfl hle (fun c c' g1 g2 g3 g4 => ?_)
  have e1 := sea_rng ham hmb hmid h0 hr g1 (show c < r0 by omega)
  have e2 := sea_rng ham hmb hmid h0 hr (show s0 ≤ c' by omega) g3
  exact sea_hi h1 h2 e1.1 g2 e2.2.1 e2.2.2.1 (by omega) e1.2.2.2.1 g4
theorem half_in {i j h : Nat} (hlt : i < j) (hh : h = (i + j) / 2) : i ≤ h ∧ h < j := by omega
theorem half_int (i j : Nat) : ((i : Int) + (j : Int)) / 2 = (((i + j) / 2 : Nat) : Int) := by omega
theorem permOn_lt {a b n N : Nat} {p q : Nat → Nat} (h : PermOn a b p q) (hb : b ≤ n) (hN : ∀ k, k < n → p k < N) : ∀ k, k < n → q k < N := by
  intro k hk
  by_cases e : a ≤ k ∧ k < b
  · obtain ⟨i, h1, h2, e2⟩ := h.into e.1 e.2
    rw [e2]
    exact hN i (by omega)
  · rw [h.off (by omega)]
    exact hN k hk

theorem permOn_id_lt {n : Nat} {p : Nat → Nat} (h : PermOn 0 n (fun k => k) p) : ∀ k, k < n → p k < n := permOn_lt h (Nat.le_refl _) (fun _ hk => hk)

end Go.Proofs.Ythbafbgnclpbpaa

/- Plain arithmetic of the civil calendar: leap years, days of months, days ahead of a year, and that a day number has one date. No program in sight. -/
import Derived.RowKit
namespace Go.Proofs.Ytajflljemfgkiaa.Civ

def leap (y : Int) : Bool := decide (0 < y) && ((decide (y % 4 = 0) && decide (y % 100 ≠ 0)) || decide (y % 400 = 0))
def lp (y : Int) : Int := if leap y = true then 1 else 0
def dim (y m : Int) : Int := if y < 1 ∨ m < 1 ∨ 12 < m then 0 else if m = 2 then 28 + lp y else if m = 4 ∨ m = 6 ∨ m = 9 ∨ m = 11 then 30 else 31
def ahd (y : Int) : Int := 365 * (y - 1) + (y - 1) / 4 - (y - 1) / 100 + (y - 1) / 400
/-- days of the months ahead of month m -/
def cum (y m : Int) : Int := if m ≤ 1 then 0 else if m = 2 then 31 else (if m = 3 then 59 else if m = 4 then 90 else if m = 5 then 120 else if m = 6 then 151 else if m = 7 then 181 else if m = 8 then 212 else if m = 9 then 243 else if m = 10 then 273 else if m = 11 then 304 else if m = 12 then 334 else 365) + lp y

theorem lp_01 (y : Int) : 0 ≤ lp y ∧ lp y ≤ 1 := by unfold lp; split <;> omega
theorem leap_iff (y : Int) : leap y = true ↔ 0 < y ∧ ((y % 4 = 0 ∧ y % 100 ≠ 0) ∨ y % 400 = 0) := by
  unfold leap; simp
theorem ahd_succ (y : Int) (h : 1 ≤ y) : ahd (y + 1) = ahd y + 365 + lp y := by
  have hl := leap_iff y
  unfold lp ahd
  by_cases hb : leap y = true
  · rw [if_pos hb]; have := hl.1 hb; omega
  · rw [if_neg hb]
    have hn : ¬ (0 < y ∧ ((y % 4 = 0 ∧ y % 100 ≠ 0) ∨ y % 400 = 0)) := fun h => hb (hl.2 h)
    omega
theorem ahd_cycle (y k : Int) : ahd (y + 400 * k) = ahd y + 146097 * k := by unfold ahd; omega
theorem leap_cycle (y k : Int) (h : 0 < y) (hk : 0 ≤ k) : leap (y + 400 * k) = leap y := by
  rw [Bool.eq_iff_iff, leap_iff, leap_iff]; omega
theorem ahd_mono (a b : Int) (h : a ≤ b) : ahd a + 365 * (b - a) ≤ ahd b ∧ ahd b ≤ ahd a + 366 * (b - a) := by unfold ahd; omega
theorem dim_bd (y m : Int) (h : 1 ≤ y) (h1 : 1 ≤ m) (h2 : m ≤ 12) : 28 ≤ dim y m ∧ dim y m ≤ 31 := by
  have := lp_01 y
  unfold dim; rw [if_neg (by omega)]; split
  · omega
  · split <;> omega
theorem dim_le (y m : Int) : 0 ≤ dim y m ∧ dim y m ≤ 31 := by
  have := lp_01 y
  unfold dim; split
  · omega
  · split
    · omega
    · split <;> omega
theorem cum_succ (y m : Int) (h : 1 ≤ y) (h1 : 1 ≤ m) (h2 : m ≤ 12) : cum y (m + 1) = cum y m + dim y m := by
  have hm : m = 1 ∨ m = 2 ∨ m = 3 ∨ m = 4 ∨ m = 5 ∨ m = 6 ∨ m = 7 ∨ m = 8 ∨ m = 9 ∨ m = 10 ∨ m = 11 ∨ m = 12 := by omega
  have hy : ¬ y < 1 := by omega
  rcases hm with rfl | rfl | rfl | rfl | rfl | rfl | rfl | rfl | rfl | rfl | rfl | rfl <;> simp [cum, dim, hy] <;> omega
theorem cum_one (y : Int) : cum y 1 = 0 := by simp [cum]
theorem cum_end (y : Int) : cum y 13 = 365 + lp y := by simp [cum]
theorem cum_bd (y m : Int) (h1 : 1 ≤ m) (h2 : m ≤ 13) : 0 ≤ cum y m ∧ cum y m ≤ 366 := by
  have := lp_01 y
  have hm : m = 1 ∨ m = 2 ∨ m = 3 ∨ m = 4 ∨ m = 5 ∨ m = 6 ∨ m = 7 ∨ m = 8 ∨ m = 9 ∨ m = 10 ∨ m = 11 ∨ m = 12 ∨ m = 13 := by omega
  rcases hm with rfl | rfl | rfl | rfl | rfl | rfl | rfl | rfl | rfl | rfl | rfl | rfl | rfl <;> simp [cum] <;> omega
theorem cum_le (y a : Int) (h : 1 ≤ y) (h1 : 1 ≤ a) (k : Nat) : a + k ≤ 13 → cum y a ≤ cum y (a + k) := by
  induction k with
  | zero => intro _; simp
  | succ k ih =>
    intro hk
    have e : a + ((k + 1 : Nat) : Int) = a + k + 1 := by omega
    have := cum_succ y (a + k) h (by omega) (by omega)
    have := dim_le y (a + k)
    have := ih (by omega)
    rw [e]; omega
theorem cum_mono (y a b : Int) (h : 1 ≤ y) (h1 : 1 ≤ a) (h2 : a < b) (h3 : b ≤ 13) : cum y a + dim y a ≤ cum y b := by
  rw [← cum_succ y a h h1 (by omega)]
  obtain ⟨k, hk⟩ : ∃ k : Nat, b = a + 1 + k := ⟨(b - (a + 1)).toNat, by omega⟩
  rw [hk]
  exact cum_le y (a + 1) h (by omega) k (by omega)

/-- y, m, d is the date of the day with number n (0: the first of January of year 1) -/
structure IsDate (n y m d : Int) : Prop where
  y1 : 1 ≤ y
  m1 : 1 ≤ m
  m2 : m ≤ 12
  d1 : 1 ≤ d
  d2 : d ≤ dim y m
  num : ahd y + cum y m + d - 1 = n

theorem IsDate.year {n y m d : Int} (h : IsDate n y m d) : ahd y ≤ n ∧ n < ahd (y + 1) := by
  have h1 := h.num
  have h2 := cum_bd y m h.m1 (by have := h.m2; omega)
  have h3 := cum_mono y m 13 h.y1 h.m1 (by have := h.m2; omega) (by omega)
  have h4 := cum_end y
  have h5 := ahd_succ y h.y1
  have h6 := h.d1
  have h7 := h.d2
  omega
theorem year_unique (n a b : Int) (h1 : ahd a ≤ n) (h2 : n < ahd (a + 1)) (h3 : ahd b ≤ n) (h4 : n < ahd (b + 1)) : a = b := by
  rcases Int.lt_trichotomy a b with h | h | h
  · have := ahd_mono (a + 1) b (by omega); omega
  · exact h
  · have := ahd_mono (b + 1) a (by omega); omega
theorem IsDate.unique {n y m d y' m' d' : Int} (h : IsDate n y m d) (h' : IsDate n y' m' d') : y = y' ∧ m = m' ∧ d = d' := by
  have e : y = y' := year_unique n y y' h.year.1 h.year.2 h'.year.1 h'.year.2
  subst e
  have a1 := h.num; have a2 := h'.num; have a3 := h.d1; have a4 := h'.d1; have a5 := h.d2; have a6 := h'.d2
  have b1 := h.m1; have b2 := h.m2; have b3 := h'.m1; have b4 := h'.m2
  have e : m = m' := by
    rcases Int.lt_trichotomy m m' with c | c | c
    · have := cum_mono y m m' h.y1 h.m1 c (by omega); omega
    · exact c
    · have := cum_mono y m' m h.y1 h'.m1 c (by omega); omega
  subst e
  exact ⟨rfl, rfl, by omega⟩

theorem year_exists (N : Int) (h0 : 0 ≤ N) (k : Nat) : N < ahd (1 + k) → ∃ y, 1 ≤ y ∧ ahd y ≤ N ∧ N < ahd (y + 1) := by
  induction k with
  | zero => intro h; have : ahd (1 + ((0 : Nat) : Int)) = 0 := by decide
            omega
  | succ k ih =>
    intro h
    by_cases hk : N < ahd (1 + k)
    · exact ih hk
    · refine ⟨1 + k, by omega, by omega, ?_⟩
      have e : (1 : Int) + ((k + 1 : Nat) : Int) = 1 + k + 1 := by omega
      rw [e] at h; exact h
theorem month_exists (y r : Int) (h0 : 0 ≤ r) (k : Nat) : k ≤ 12 → r < cum y (1 + k) → ∃ m, 1 ≤ m ∧ m ≤ 12 ∧ cum y m ≤ r ∧ r < cum y (m + 1) := by
  induction k with
  | zero => intro _ h; have : cum y (1 + ((0 : Nat) : Int)) = 0 := by simp [cum]
            omega
  | succ k ih =>
    intro hk12 h
    by_cases hk : r < cum y (1 + k)
    · exact ih (by omega) hk
    · refine ⟨1 + k, by omega, by omega, by omega, ?_⟩
      have e : (1 : Int) + ((k + 1 : Nat) : Int) = 1 + k + 1 := by omega
      rw [e] at h; exact h
theorem date_exists (N : Int) (h0 : 0 ≤ N) : ∃ t : Int × Int × Int, IsDate N t.1 t.2.1 t.2.2 := by
  have e0 : ahd 1 = 0 := by decide
  have e1 := ahd_mono 1 (1 + ((N.toNat + 1 : Nat) : Int)) (by omega)
  obtain ⟨y, hy, h1, h2⟩ := year_exists N h0 (N.toNat + 1) (by omega)
  have hs := ahd_succ y hy
  have hc := cum_end y
  have e2 : (1 : Int) + ((12 : Nat) : Int) = 13 := by decide
  have e3 : N - ahd y < cum y (1 + ((12 : Nat) : Int)) := by rw [e2]; omega
  obtain ⟨m, hm1, hm2, h3, h4⟩ := month_exists y (N - ahd y) (by omega) 12 (by omega) e3
  have hcs := cum_succ y m hy hm1 hm2
  exact ⟨(y, m, N - ahd y - cum y m + 1), hy, hm1, hm2, by show 1 ≤ N - ahd y - cum y m + 1; omega, by show N - ahd y - cum y m + 1 ≤ dim y m; omega, by show ahd y + cum y m + (N - ahd y - cum y m + 1) - 1 = N; omega⟩

/-- the date of day N -/
noncomputable def dateOf (N : Int) : Int × Int × Int := if h : 0 ≤ N then Classical.choose (date_exists N h) else (0, 0, 0)
noncomputable def yOf (N : Int) : Int := (dateOf N).1
noncomputable def mOf (N : Int) : Int := (dateOf N).2.1
noncomputable def dOf (N : Int) : Int := (dateOf N).2.2
theorem isDate (N : Int) (h : 0 ≤ N) : IsDate N (yOf N) (mOf N) (dOf N) := by
  unfold yOf mOf dOf dateOf
  rw [dif_pos h]
  exact Classical.choose_spec (date_exists N h)
theorem isDate_of {N y m d : Int} (h : IsDate N y m d) : yOf N = y ∧ mOf N = m ∧ dOf N = d := by
  have h0 : 0 ≤ N := by
    have h1 := h.num
    have h2 := cum_bd y m h.m1 (by have := h.m2; omega)
    have h3 := h.d1; have h4 := h.y1
    have : 0 ≤ ahd y := by unfold ahd; omega
    omega
  exact (isDate N h0).unique h
theorem dim_pos {y m : Int} (h : 1 ≤ dim y m) : 1 ≤ y ∧ 1 ≤ m ∧ m ≤ 12 := by
  by_cases c : y < 1 ∨ m < 1 ∨ 12 < m
  · have : dim y m = 0 := by unfold dim; rw [if_pos c]
    omega
  · omega

end Go.Proofs.Ytajflljemfgkiaa.Civ

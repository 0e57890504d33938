/- Laws of dates: the next day, the order, a week; plain. And civil.Date with its weekday and minute given. -/
import Derived.Test.YtfpmldmgiajgoaaCivG
namespace Go.Proofs.Ytfpmldmgiajgoaa
open Go.RowKit Go.Shelf

namespace Civ
theorem IsDate.next {N y m d : Int} (h : IsDate N y m d) (hd : d < dim y m) : IsDate (N + 1) y m (d + 1) :=
  ⟨h.y1, h.m1, h.m2, by have := h.d1; omega, by omega, by have := h.num; omega⟩
theorem IsDate.nextMonth {N y m d : Int} (h : IsDate N y m d) (hd : ¬ d < dim y m) (hm : m < 12) : IsDate (N + 1) y (m + 1) 1 := by
  have h1 := cum_succ y m h.y1 h.m1 h.m2
  have h2 := dim_bd y (m + 1) h.y1 (by have := h.m1; omega) (by omega)
  have h3 := h.d2; have h4 := h.num; have h5 := h.m1
  exact ⟨h.y1, by omega, by omega, by omega, by omega, by omega⟩
theorem IsDate.nextYear {N y m d : Int} (h : IsDate N y m d) (hd : ¬ d < dim y m) (hm : ¬ m < 12) : IsDate (N + 1) (y + 1) 1 1 := by
  have e : m = 12 := by have := h.m2; omega
  subst e
  have h1 : cum y 13 = cum y 12 + dim y 12 := cum_succ y 12 h.y1 (by omega) (by omega)
  have h2 := dim_bd (y + 1) 1 (by have := h.y1; omega) (by omega) (by omega)
  have h3 := h.d2; have h4 := h.num; have h5 := ahd_succ y h.y1; have h6 := cum_end y; have h7 := cum_one (y + 1); have h8 := h.y1
  exact ⟨by omega, by omega, by omega, by omega, by omega, by omega⟩
theorem IsDate.lt_year {N N' y m d y' m' d' : Int} (h : IsDate N y m d) (h' : IsDate N' y' m' d') (hy : y < y') : N < N' := by
  have h1 := h.year.2
  have h2 := h'.year.1
  have h3 := ahd_mono (y + 1) y' (by omega)
  omega
theorem IsDate.lt_month {N N' y m d m' d' : Int} (h : IsDate N y m d) (h' : IsDate N' y m' d') (hm : m < m') : N < N' := by
  have h1 := cum_mono y m m' h.y1 h.m1 hm (by have := h'.m2; omega)
  have h2 := h.num; have h3 := h'.num; have h4 := h.d2; have h5 := h'.d1
  omega
theorem IsDate.lt_day {N N' y m d d' : Int} (h : IsDate N y m d) (h' : IsDate N' y m d') : N' - N = d' - d := by
  have h2 := h.num; have h3 := h'.num
  omega
theorem IsDate.range {N y m d : Int} (h : IsDate N y m d) (h0 : 719162 ≤ N) (h1 : N ≤ 764268903) : 1970 ≤ y ∧ y ≤ 2093887 := by
  have h2 := h.year
  have h3 := h.y1
  constructor
  · rcases Int.lt_or_le y 1970 with c | c
    · have := ahd_mono (y + 1) 1970 (by omega)
      have : ahd 1970 = 719162 := by decide
      omega
    · exact c
  · rcases Int.lt_or_le 2093887 y with c | c
    · have := ahd_mono 2093888 y (by omega)
      have : 764268904 ≤ ahd 2093888 := by decide
      omega
    · exact c
end Civ

/-- civil.Date with the day's number, the weekday and the minute of the day by name -/
theorem date_v (n N wd mi : Int) (w : World) (h : 0 ≤ n) (h2 : n ≤ 1099511627776) (hN : n / 1440 + 719162 = N) (hwd : (n / 1440 + 3) % 7 = wd) (hmi : n % 1440 = mi) :
    Calls Try.prog 17 #[.int .i64 n] w fun e w' => e = .returned (.tuple #[.agg #[.int .i64 (Civ.yOf N), .int .i64 (Civ.mOf N), .int .i64 (Civ.dOf N), .int .i64 wd, .int .i64 mi], .int .i64 0]) ∧ Below w.heap.size w w' := by
  have := date_any n w h h2
  rw [hN, hwd, hmi] at this
  exact this

/-- the minute of a date that is one -/
theorem minute_of_date (n N y m d mi : Int) (hN : n / 1440 + 719162 = N) (hd : Civ.IsDate N y m d) (h : 0 ≤ n) (h2 : n ≤ 1099511627776) (hmi : n % 1440 = mi) : mnN y m d mi = n ∧ mnE y m d mi = 0 := by
  have hr := hd.range (by omega) (by omega)
  have h1 := hd.d1; have h3 := hd.d2; have h4 := hd.num
  have hb : ¬ mnBad y m d mi := by unfold mnBad; omega
  have hv : mnVal y m d mi = n := by unfold mnVal; omega
  unfold mnN mnE
  rw [if_neg hb, if_neg hb, hv, if_pos h2, if_pos h2]
  exact ⟨rfl, rfl⟩
/-- the date of a minute that is one's -/
theorem date_of_minute (y m d mi : Int) (he : mnE y m d mi = 0) : 0 ≤ mnN y m d mi ∧ mnN y m d mi ≤ 1099511627776 ∧ Civ.IsDate (mnN y m d mi / 1440 + 719162) y m d ∧ mnN y m d mi % 1440 = mi := by
  unfold mnE at he
  by_cases hb : mnBad y m d mi
  · rw [if_pos hb] at he; cases he
  rw [if_neg hb] at he
  by_cases hv : mnVal y m d mi ≤ 1099511627776
  · have e : mnN y m d mi = mnVal y m d mi := by unfold mnN; rw [if_neg hb, if_pos hv]
    rw [e]
    unfold mnBad at hb
    have hm := Civ.dim_pos (y := y) (m := m) (by omega)
    have hc := Civ.cum_bd y m hm.2.1 (by omega)
    have ha : 719162 ≤ Civ.ahd y := by
      have := Civ.ahd_mono 1970 y (by omega)
      have : Civ.ahd 1970 = 719162 := by decide
      omega
    have hq : mnVal y m d mi / 1440 = Civ.ahd y - 719162 + d - 1 + Civ.cum y m := by unfold mnVal; omega
    refine ⟨?_, hv, ⟨hm.1, hm.2.1, hm.2.2, by omega, by omega, by omega⟩, ?_⟩
    · unfold mnVal; omega
    · unfold mnVal; omega
  · rw [if_neg hv] at he; cases he
theorem minute_zero (y m d mi : Int) (he : mnE y m d mi ≠ 0) : mnN y m d mi = 0 := by
  unfold mnE at he
  unfold mnN
  by_cases hb : mnBad y m d mi
  · rw [if_pos hb]
  · rw [if_neg hb] at he ⊢
    by_cases hv : mnVal y m d mi ≤ 1099511627776
    · rw [if_pos hv] at he; exact absurd rfl he
    · rw [if_neg hv]

end Go.Proofs.Ytfpmldmgiajgoaa

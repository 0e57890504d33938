/- civil.Date and civil.Minute as functions: what the code and the reference tell is the same. -/
import Derived.Test.YtfpmldmgiajgoaaCivE
namespace Go.Proofs.Ytfpmldmgiajgoaa
open Go.RowKit Go.Shelf

instance (y m d mi : Int) : Decidable (mnBad y m d mi) := by unfold mnBad; exact inferInstance
/-- the minute of a date; the error -/
def mnN (y m d mi : Int) : Int := if mnBad y m d mi then 0 else if mnVal y m d mi ≤ 1099511627776 then mnVal y m d mi else 0
def mnE (y m d mi : Int) : Int := if mnBad y m d mi then 120 else if mnVal y m d mi ≤ 1099511627776 then 0 else 120

theorem minute_any (y m d mi : Int) (w : World) :
    Calls Try.prog 11 #[.int .i64 y, .int .i64 m, .int .i64 d, .int .i64 mi] w fun e w' => e = .returned (.tuple #[.int .i64 (mnN y m d mi), .int .i64 (mnE y m d mi)]) ∧ Below w.heap.size w w' := by
  by_cases hb : mnBad y m d mi
  · refine (minute_bad y m d mi w hb).mono fun e w' ⟨he, hw⟩ => ⟨?_, hw⟩
    rw [he, mnN, mnE, if_pos hb, if_pos hb]
  · refine (minute_good y m d mi w hb).mono fun e w' ⟨he, hw⟩ => ⟨?_, hw⟩
    rw [he, mnN, mnE, if_neg hb, if_neg hb]
    by_cases hv : mnVal y m d mi ≤ 1099511627776
    · rw [if_pos hv, if_pos hv, if_pos hv]
    · rw [if_neg hv, if_neg hv, if_neg hv]

theorem mnVal_far (y m d mi : Int) (h : 2093887 < y) (hm : 0 ≤ Civ.cum y m) (hd : 1 ≤ d) (hmi : 0 ≤ mi) : 1099511627776 < mnVal y m d mi := by
  unfold mnVal
  have : 763549741 < Civ.ahd y - 719162 := by unfold Civ.ahd; omega
  omega

theorem rminute_any (y m d mi : Int) (w : World) :
    Calls Try.prog 12 #[.int .i64 y, .int .i64 m, .int .i64 d, .int .i64 mi] w fun e w' => e = .returned (.tuple #[.int .i64 (mnN y m d mi), .int .i64 (mnE y m d mi)]) ∧ w = w' := by
  by_cases hr : rmnBad y m d mi
  · have hb : mnBad y m d mi := by unfold rmnBad at hr; unfold mnBad; omega
    refine (rminute_bad y m d mi w hr).mono fun e w' ⟨he, hw⟩ => ⟨?_, hw⟩
    rw [he, mnN, mnE, if_pos hb, if_pos hb]
  · refine (rminute_good y m d mi w hr).mono fun e w' ⟨he, hw⟩ => ⟨?_, hw⟩
    rw [he, mnN, mnE]
    by_cases hb : mnBad y m d mi
    · have hy : 2093887 < y := by unfold rmnBad at hr; unfold mnBad at hb; omega
      have hfar : 1099511627776 < mnVal y m d mi := by
        unfold rmnBad at hr
        have hm := Civ.dim_pos (y := y) (m := m) (by omega)
        exact mnVal_far y m d mi hy (Civ.cum_bd y m hm.2.1 (by omega)).1 (by omega) (by omega)
      rw [if_pos hb, if_pos hb, if_neg (by omega)]
    · rw [if_neg hb, if_neg hb]
      by_cases hv : mnVal y m d mi ≤ 1099511627776
      · rw [if_pos hv, if_pos hv, if_pos hv]
      · rw [if_neg hv, if_neg hv, if_neg hv]

/-- civil.Date tells the date -/
theorem date_any (n : Int) (w : World) (h : 0 ≤ n) (h2 : n ≤ 1099511627776) :
    Calls Try.prog 17 #[.int .i64 n] w fun e w' => e = .returned (.tuple #[.agg #[.int .i64 (Civ.yOf (n / 1440 + 719162)), .int .i64 (Civ.mOf (n / 1440 + 719162)), .int .i64 (Civ.dOf (n / 1440 + 719162)), .int .i64 ((n / 1440 + 3) % 7), .int .i64 (n % 1440)], .int .i64 0]) ∧ Below w.heap.size w w' := by
  refine (date_yes n w h h2).mono ?_
  rintro e w' ⟨⟨y, m, d, rfl, hd⟩, hb⟩
  obtain ⟨rfl, rfl, rfl⟩ := Civ.isDate_of hd
  exact ⟨rfl, hb⟩
theorem rdate_any (n : Int) (w : World) (h : 0 ≤ n) (h2 : n ≤ 1099511627776) :
    Calls Try.prog 18 #[.int .i64 n] w fun e w' => e = .returned (.tuple #[.agg #[.int .i64 (Civ.yOf (n / 1440 + 719162)), .int .i64 (Civ.mOf (n / 1440 + 719162)), .int .i64 (Civ.dOf (n / 1440 + 719162)), .int .i64 ((n / 1440 + 3) % 7), .int .i64 (n % 1440)], .int .i64 0]) ∧ Below w.heap.size w w' := by
  refine (rdate_yes n w h h2).mono ?_
  rintro e w' ⟨⟨y, m, d, rfl, hd⟩, hb⟩
  obtain ⟨rfl, rfl, rfl⟩ := Civ.isDate_of hd
  exact ⟨rfl, hb⟩

end Go.Proofs.Ytfpmldmgiajgoaa

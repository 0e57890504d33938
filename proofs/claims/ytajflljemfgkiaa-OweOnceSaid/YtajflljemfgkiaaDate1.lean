/- civil.Date and the reference's Date tell the same: for the seats that do not reach civil.Minute. -/
import Derived.Test.YtajflljemfgkiaaCivC
import Derived.Lib.QuietBelow
namespace Go.Proofs.Ytajflljemfgkiaa
open Go.RowKit Go.Shelf

set_option maxHeartbeats 400000 in
theorem rleap_any (y : Int) (w : World) :
    Calls Try.prog 48 #[.int .i64 y] w fun e w' => e = .returned (.bool (Civ.leap y)) ∧ w = w' := by
  by_cases h4 : y % 4 = 0
  · have h4' : (y % 4 != 0) = false := by rw [h4]; rfl
    have H4 := Lib.hid h4
    clear h4
    go_enter Try.func48, Try.ntmps48
    go_wp2
    all_goals
      go_ret
      exact ⟨ret_bool (by have h4 := H4.out; rw [Bool.eq_iff_iff, Civ.leap_iff]; simp; omega), rfl⟩
  · have h4' : (y % 4 != 0) = true := by rw [bne_iff_ne]; exact h4
    have H4 := Lib.hid h4
    clear h4
    go_enter Try.func48, Try.ntmps48
    go_wp2
    all_goals
      go_ret
      exact ⟨ret_bool (by have h4 := H4.out; rw [Bool.eq_iff_iff, Civ.leap_iff]; simp; omega), rfl⟩

set_option maxHeartbeats 400000 in
theorem rdays_any (y m : Int) (w : World) :
    Calls Try.prog 45 #[.int .i64 y, .int .i64 m] w fun e w' => e = .returned (.int .i64 (Civ.dim y m)) ∧ w = w' := by
  by_cases hy : y < 1
  · have hd : Civ.dim y m = 0 := by unfold Civ.dim; rw [if_pos (by omega)]
    rw [hd]; clear hd
    go_enter Try.func45, Try.ntmps45
    go_wp2
    go_ret
    exact ⟨rfl, rfl⟩
  by_cases hm : m < 1 ∨ 12 < m
  · have hd : Civ.dim y m = 0 := by unfold Civ.dim; rw [if_pos (by omega)]
    rw [hd]; clear hd
    go_enter Try.func45, Try.ntmps45
    rcases hm with hm | hm
    · go_wp2
      go_ret
      exact ⟨rfl, rfl⟩
    · go_wp2
      go_ret
      exact ⟨rfl, rfl⟩
  by_cases h2 : m = 2
  · subst h2
    have hd : Civ.dim y 2 = 28 + Civ.lp y := by simp [Civ.dim, hy]
    rw [hd]; clear hd hm
    unfold Civ.lp
    cases hl : Civ.leap y with
    | true =>
      have H : Hid (∀ w, Calls Try.prog 48 #[.int .i64 y] w fun e w' => e = .returned (.bool true) ∧ w = w') := Lib.hid (fun w => by have := rleap_any y w; rw [hl] at this; exact this)
      clear hl
      go_enter Try.func45, Try.ntmps45
      go_wp2_with (go_at_call 48; refine (H.out _).mono ?_; rintro e w2 ⟨rfl, rfl⟩)
      go_ret
      exact ⟨rfl, rfl⟩
    | false =>
      have H : Hid (∀ w, Calls Try.prog 48 #[.int .i64 y] w fun e w' => e = .returned (.bool false) ∧ w = w') := Lib.hid (fun w => by have := rleap_any y w; rw [hl] at this; exact this)
      clear hl
      go_enter Try.func45, Try.ntmps45
      go_wp2_with (go_at_call 48; refine (H.out _).mono ?_; rintro e w2 ⟨rfl, rfl⟩)
      go_ret
      exact ⟨rfl, rfl⟩
  · have hmm : m = 1 ∨ m = 3 ∨ m = 4 ∨ m = 5 ∨ m = 6 ∨ m = 7 ∨ m = 8 ∨ m = 9 ∨ m = 10 ∨ m = 11 ∨ m = 12 := by omega
    clear hm h2
    have go31 : ∀ m : Int, m = 1 ∨ m = 3 ∨ m = 5 ∨ m = 7 ∨ m = 8 ∨ m = 10 ∨ m = 12 → Civ.dim y m = 31 := fun m h => by rcases h with rfl | rfl | rfl | rfl | rfl | rfl | rfl <;> simp [Civ.dim, hy]
    have go30 : ∀ m : Int, m = 4 ∨ m = 6 ∨ m = 9 ∨ m = 11 → Civ.dim y m = 30 := fun m h => by rcases h with rfl | rfl | rfl | rfl <;> simp [Civ.dim, hy]
    rcases hmm with rfl | rfl | rfl | rfl | rfl | rfl | rfl | rfl | rfl | rfl | rfl <;> (first | rw [go31 _ (by omega)] | rw [go30 _ (by omega)]) <;> clear go31 go30 <;>
    (go_enter Try.func45, Try.ntmps45
     go_wp2
     go_ret
     exact ⟨rfl, rfl⟩)

/-- what the reference's Date tells -/
def RDated (n : Int) (w : World) (e : Ending) (w' : World) : Prop :=
  (∃ y m d : Int, e = .returned (.tuple #[.agg #[.int .i64 y, .int .i64 m, .int .i64 d, .int .i64 ((n / 1440 + 3) % 7), .int .i64 (n % 1440)], .int .i64 0]) ∧ Civ.IsDate (n / 1440 + 719162) y m d) ∧ Below w.heap.size w w'

set_option maxHeartbeats 400000 in
theorem rdate_no (n : Int) (w : World) (h : n < 0 ∨ 1099511627776 < n) :
    Calls Try.prog 42 #[.int .i64 n] w fun e w' => e = .returned (.tuple #[.agg #[.int .i64 0, .int .i64 0, .int .i64 0, .int .i64 0, .int .i64 0], .int .i64 120]) ∧ Below w.heap.size w w' := by
  rcases h with h | h
  · go_enter Try.func42, Try.ntmps42
    go_wp2
    exact bodyPost_ret (v := .tuple #[.agg #[.int .i64 0, .int .i64 0, .int .i64 0, .int .i64 0, .int .i64 0], .int .i64 120]) (by simp [results, Try.results42, go_sem]) rfl ⟨rfl, (Below.refl _ _).alloc (Nat.le_refl _) _⟩
  · have h' : ¬ n < 0 := by omega
    go_enter Try.func42, Try.ntmps42
    go_wp2
    exact bodyPost_ret (v := .tuple #[.agg #[.int .i64 0, .int .i64 0, .int .i64 0, .int .i64 0, .int .i64 0], .int .i64 120]) (by simp [results, Try.results42, go_sem]) rfl ⟨rfl, (Below.refl _ _).alloc (Nat.le_refl _) _⟩

theorem big_year (y m r R : Int) (h1 : 1 ≤ y) (hm : 1 ≤ m) (hm2 : m ≤ 12) (h : Civ.ahd y + Civ.cum y m + r = R) : 365 * (y - 1) + r ≤ R := by
  have := ahd_big y _ h1 rfl
  have := Civ.cum_bd y m hm (by omega)
  omega

set_option maxHeartbeats 1000000 in
theorem rdate_yes (n : Int) (w : World) (h : 0 ≤ n) (h2 : n ≤ 1099511627776) :
    Calls Try.prog 42 #[.int .i64 n] w (RDated n w) := by
  have hd0 : 0 ≤ n / 1440 := by omega
  have hd1 : n / 1440 ≤ 763549741 := by omega
  have hwd0 : 0 ≤ (n / 1440 + 3) % 7 := by omega
  have hmi0 : 0 ≤ n % 1440 := by omega
  obtain ⟨N, hN⟩ : ∃ N, N = n / 1440 := ⟨_, rfl⟩
  have hq0 : 0 ≤ N / 146097 := by omega
  have hq1 : N / 146097 ≤ 6000 := by omega
  have hr0 : 0 ≤ N % 146097 := by omega
  have hstart : Civ.ahd (1970 + 400 * (N / 146097)) + Civ.cum (1970 + 400 * (N / 146097)) 1 + N % 146097 = N + 719162 := by
    rw [Civ.ahd_cycle, Civ.cum_one]; have : Civ.ahd 1970 = 719162 := by decide
    omega
  have HS := Lib.hid hstart
  clear hstart
  rw [hN] at hq0 hq1 hr0 HS
  clear hN N
  go_enter Try.func42, Try.ntmps42
  go_wp2
  go_loop [4, 6, 7] (fun a b c => ∃ r y m : Int, a = .int .i64 r ∧ b = .int .i64 y ∧ c = .int .i64 m ∧ 1 ≤ y ∧ 1 ≤ m ∧ m ≤ 12 ∧ 0 ≤ r ∧ Hid (Civ.ahd y + Civ.cum y m + r = n / 1440 + 719162)) (fun a _ _ => (intOf a).toNat)
  case atStart => exact ⟨_, _, _, rfl, rfl, rfl, by omega, by omega, by omega, hr0, HS⟩
  case round =>
    clear HS
    obtain ⟨r, y, m, rfl, rfl, rfl, hy1, hm1, hm2, hr, HR⟩ := hrel
    have hyb := big_year y m r _ hy1 hm1 hm2 HR.out
    have hyb2 : y ≤ 2200000 := by omega
    have hrb : r ≤ 800000000 := by omega
    clear hyb
    obtain ⟨D, hD⟩ : ∃ D, Civ.dim y m = D := ⟨_, rfl⟩
    have hDb := Civ.dim_bd y m hy1 hm1 hm2
    rw [hD] at hDb
    have hD1 := hDb.1
    have hD2 := hDb.2
    clear hDb
    have hcs := Civ.cum_succ y m hy1 hm1 hm2
    rw [hD] at hcs
    have HC := Lib.hid hcs
    have HD := Lib.hid hD
    have H : Hid (∀ w, Calls Try.prog 45 #[.int .i64 y, .int .i64 m] w fun e w' => e = .returned (.int .i64 D) ∧ w = w') := Lib.hid (fun w => by have := rdays_any y m w; rw [hD] at this; exact this)
    clear hcs hD
    by_cases hge : D ≤ r
    · by_cases hm12 : m = 12
      · subst hm12
        go_wp2_with (go_at_call 45; refine (H.out _).mono ?_; rintro e w2 ⟨rfl, rfl⟩)
        go_round
        case rel =>
          refine ⟨_, _, _, rfl, rfl, rfl, by omega, by omega, by omega, by omega, ?_⟩
          show _ = _
          have a1 := HR.out
          have a2 := HC.out
          have a3 := Civ.ahd_succ y hy1
          have a4 : Civ.cum y (12 + 1) = 365 + Civ.lp y := Civ.cum_end y
          have a5 := Civ.cum_one (y + 1)
          omega
        case measure => simp [intOf]; omega
      · have hm11 : m ≤ 11 := by omega
        clear hm12
        go_wp2_with (go_at_call 45; refine (H.out _).mono ?_; rintro e w2 ⟨rfl, rfl⟩)
        go_round
        case rel =>
          refine ⟨_, _, _, rfl, rfl, rfl, by omega, by omega, by omega, by omega, ?_⟩
          show _ = _
          have a1 := HR.out
          have a2 := HC.out
          omega
        case measure => simp [intOf]; omega
    · have hfin : Civ.IsDate (n / 1440 + 719162) y m (r + 1) := by
        have a1 := HR.out; have a2 := HD.out
        exact ⟨hy1, hm1, hm2, by omega, by omega, by omega⟩
      go_wp2_with (go_at_call 45; refine (H.out _).mono ?_; rintro e w2 ⟨rfl, rfl⟩)
      refine bodyPost_ret (v := .tuple #[.agg #[.int .i64 y, .int .i64 m, .int .i64 (r + 1), .int .i64 ((n / 1440 + 3) % 7), .int .i64 (n % 1440)], .int .i64 0]) (by simp [results, Try.results42, go_sem]) rfl ⟨⟨y, m, r + 1, rfl, hfin⟩, ?_⟩
      exact (Below.refl _ _).alloc (Nat.le_refl _) _

/-- civil.Date tells the date -/
theorem date_any (n : Int) (w : World) (h : 0 ≤ n) (h2 : n ≤ 1099511627776) :
    Calls Try.prog 32 #[.int .i64 n] w fun e w' => e = .returned (.tuple #[.agg #[.int .i64 (Civ.yOf (n / 1440 + 719162)), .int .i64 (Civ.mOf (n / 1440 + 719162)), .int .i64 (Civ.dOf (n / 1440 + 719162)), .int .i64 ((n / 1440 + 3) % 7), .int .i64 (n % 1440)], .int .i64 0]) ∧ Below w.heap.size w w' := by
  refine (date_yes n w h h2).mono ?_
  rintro e w' ⟨⟨y, m, d, rfl, hd⟩, hb⟩
  obtain ⟨rfl, rfl, rfl⟩ := Civ.isDate_of hd
  exact ⟨rfl, hb⟩
theorem rdate_any (n : Int) (w : World) (h : 0 ≤ n) (h2 : n ≤ 1099511627776) :
    Calls Try.prog 42 #[.int .i64 n] w fun e w' => e = .returned (.tuple #[.agg #[.int .i64 (Civ.yOf (n / 1440 + 719162)), .int .i64 (Civ.mOf (n / 1440 + 719162)), .int .i64 (Civ.dOf (n / 1440 + 719162)), .int .i64 ((n / 1440 + 3) % 7), .int .i64 (n % 1440)], .int .i64 0]) ∧ Below w.heap.size w w' := by
  refine (rdate_yes n w h h2).mono ?_
  rintro e w' ⟨⟨y, m, d, rfl, hd⟩, hb⟩
  obtain ⟨rfl, rfl, rfl⟩ := Civ.isDate_of hd
  exact ⟨rfl, hb⟩

theorem cells5 {W w' : World} {a b c d e : Value} {t : TypeId} {B : Nat} (hb : Below B (W.alloc (.cells #[a, b, c, d, e] t)) w') (h : W.heap.size < B) :
    w'.cell? ⟨W.heap.size, 0, none⟩ = some a ∧ w'.cell? ⟨W.heap.size, 1, none⟩ = some b ∧ w'.cell? ⟨W.heap.size, 2, none⟩ = some c ∧ w'.cell? ⟨W.heap.size, 3, none⟩ = some d ∧ w'.cell? ⟨W.heap.size, 4, none⟩ = some e := by
  refine ⟨(hb.cell (p := ⟨W.heap.size, 0, none⟩) h).trans ?_, (hb.cell (p := ⟨W.heap.size, 1, none⟩) h).trans ?_, (hb.cell (p := ⟨W.heap.size, 2, none⟩) h).trans ?_, (hb.cell (p := ⟨W.heap.size, 3, none⟩) h).trans ?_, (hb.cell (p := ⟨W.heap.size, 4, none⟩) h).trans ?_⟩ <;> simp

theorem date_lit (n N y m d wd mi : Int) (w : World) (h : 0 ≤ n) (h2 : n ≤ 1099511627776) (hN : n / 1440 + 719162 = N) (hd : Civ.IsDate N y m d) (hwd : (n / 1440 + 3) % 7 = wd) (hmi : n % 1440 = mi) :
    Calls Try.prog 32 #[.int .i64 n] w fun e w' => e = .returned (.tuple #[.agg #[.int .i64 y, .int .i64 m, .int .i64 d, .int .i64 wd, .int .i64 mi], .int .i64 0]) ∧ Below w.heap.size w w' := by
  have e := Civ.isDate_of hd
  have := date_any n w h h2
  rw [hN, hwd, hmi, e.1, e.2.1, e.2.2] at this
  exact this
/-- civil.Date with the day's number, the weekday and the minute of the day by name -/
theorem date_v (n N wd mi : Int) (w : World) (h : 0 ≤ n) (h2 : n ≤ 1099511627776) (hN : n / 1440 + 719162 = N) (hwd : (n / 1440 + 3) % 7 = wd) (hmi : n % 1440 = mi) :
    Calls Try.prog 32 #[.int .i64 n] w fun e w' => e = .returned (.tuple #[.agg #[.int .i64 (Civ.yOf N), .int .i64 (Civ.mOf N), .int .i64 (Civ.dOf N), .int .i64 wd, .int .i64 mi], .int .i64 0]) ∧ Below w.heap.size w w' := by
  have := date_any n w h h2
  rw [hN, hwd, hmi] at this
  exact this

end Go.Proofs.Ytajflljemfgkiaa

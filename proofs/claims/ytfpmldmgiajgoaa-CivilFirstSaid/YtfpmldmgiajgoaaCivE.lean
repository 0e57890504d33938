/- the reference's calendar: Leap, Days, Date, Minute -/
import Derived.Test.YtfpmldmgiajgoaaCivD
namespace Go.Proofs.Ytfpmldmgiajgoaa
open Go.RowKit Go.Shelf

set_option maxHeartbeats 400000 in
theorem rleap_any (y : Int) (w : World) :
    Calls Try.prog 14 #[.int .i64 y] w fun e w' => e = .returned (.bool (Civ.leap y)) ∧ w = w' := by
  by_cases h4 : y % 4 = 0
  · have h4' : (y % 4 != 0) = false := by rw [h4]; rfl
    have H4 := Lib.hid h4
    clear h4
    go_enter Try.func14, Try.ntmps14
    go_wp2
    all_goals
      go_ret
      exact ⟨ret_bool (by have h4 := H4.out; rw [Bool.eq_iff_iff, Civ.leap_iff]; simp; omega), rfl⟩
  · have h4' : (y % 4 != 0) = true := by rw [bne_iff_ne]; exact h4
    have H4 := Lib.hid h4
    clear h4
    go_enter Try.func14, Try.ntmps14
    go_wp2
    all_goals
      go_ret
      exact ⟨ret_bool (by have h4 := H4.out; rw [Bool.eq_iff_iff, Civ.leap_iff]; simp; omega), rfl⟩

set_option maxHeartbeats 400000 in
theorem rdays_any (y m : Int) (w : World) :
    Calls Try.prog 16 #[.int .i64 y, .int .i64 m] w fun e w' => e = .returned (.int .i64 (Civ.dim y m)) ∧ w = w' := by
  by_cases hy : y < 1
  · have hd : Civ.dim y m = 0 := by unfold Civ.dim; rw [if_pos (by omega)]
    rw [hd]; clear hd
    go_enter Try.func16, Try.ntmps16
    go_wp2
    go_ret
    exact ⟨rfl, rfl⟩
  by_cases hm : m < 1 ∨ 12 < m
  · have hd : Civ.dim y m = 0 := by unfold Civ.dim; rw [if_pos (by omega)]
    rw [hd]; clear hd
    go_enter Try.func16, Try.ntmps16
    rcases hm with hm | hm
    · go_wp2
      go_ret
      exact ⟨rfl, rfl⟩
    · go_wp2
      go_ret
      exact ⟨rfl, rfl⟩
  by_cases h2 : m = 2
  · subst h2
    have hd : Civ.dim y 2 = 28 + Civ.lp y := by simp [Civ.dim, hy]
    rw [hd]; clear hd hm
    unfold Civ.lp
    cases hl : Civ.leap y with
    | true =>
      have H : Hid (∀ w, Calls Try.prog 14 #[.int .i64 y] w fun e w' => e = .returned (.bool true) ∧ w = w') := Lib.hid (fun w => by have := rleap_any y w; rw [hl] at this; exact this)
      clear hl
      go_enter Try.func16, Try.ntmps16
      go_wp2_with (go_at_call 14; refine (H.out _).mono ?_; rintro e w2 ⟨rfl, rfl⟩)
      go_ret
      exact ⟨rfl, rfl⟩
    | false =>
      have H : Hid (∀ w, Calls Try.prog 14 #[.int .i64 y] w fun e w' => e = .returned (.bool false) ∧ w = w') := Lib.hid (fun w => by have := rleap_any y w; rw [hl] at this; exact this)
      clear hl
      go_enter Try.func16, Try.ntmps16
      go_wp2_with (go_at_call 14; refine (H.out _).mono ?_; rintro e w2 ⟨rfl, rfl⟩)
      go_ret
      exact ⟨rfl, rfl⟩
  · have hmm : m = 1 ∨ m = 3 ∨ m = 4 ∨ m = 5 ∨ m = 6 ∨ m = 7 ∨ m = 8 ∨ m = 9 ∨ m = 10 ∨ m = 11 ∨ m = 12 := by omega
    clear hm h2
    have go31 : ∀ m : Int, m = 1 ∨ m = 3 ∨ m = 5 ∨ m = 7 ∨ m = 8 ∨ m = 10 ∨ m = 12 → Civ.dim y m = 31 := fun m h => by rcases h with rfl | rfl | rfl | rfl | rfl | rfl | rfl <;> simp [Civ.dim, hy]
    have go30 : ∀ m : Int, m = 4 ∨ m = 6 ∨ m = 9 ∨ m = 11 → Civ.dim y m = 30 := fun m h => by rcases h with rfl | rfl | rfl | rfl <;> simp [Civ.dim, hy]
    rcases hmm with rfl | rfl | rfl | rfl | rfl | rfl | rfl | rfl | rfl | rfl | rfl <;> (first | rw [go31 _ (by omega)] | rw [go30 _ (by omega)]) <;> clear go31 go30 <;>
    (go_enter Try.func16, Try.ntmps16
     go_wp2
     go_ret
     exact ⟨rfl, rfl⟩)

/-- what the reference's Date tells -/
def RDated (n : Int) (w : World) (e : Ending) (w' : World) : Prop :=
  (∃ y m d : Int, e = .returned (.tuple #[.agg #[.int .i64 y, .int .i64 m, .int .i64 d, .int .i64 ((n / 1440 + 3) % 7), .int .i64 (n % 1440)], .int .i64 0]) ∧ Civ.IsDate (n / 1440 + 719162) y m d) ∧ Below w.heap.size w w'

set_option maxHeartbeats 400000 in
theorem rdate_no (n : Int) (w : World) (h : n < 0 ∨ 1099511627776 < n) :
    Calls Try.prog 18 #[.int .i64 n] w fun e w' => e = .returned (.tuple #[.agg #[.int .i64 0, .int .i64 0, .int .i64 0, .int .i64 0, .int .i64 0], .int .i64 120]) ∧ Below w.heap.size w w' := by
  rcases h with h | h
  · go_enter Try.func18, Try.ntmps18
    go_wp2
    exact bodyPost_ret (v := .tuple #[.agg #[.int .i64 0, .int .i64 0, .int .i64 0, .int .i64 0, .int .i64 0], .int .i64 120]) (by simp [results, Try.results18, go_sem]) rfl ⟨rfl, (Below.refl _ _).alloc (Nat.le_refl _) _⟩
  · have h' : ¬ n < 0 := by omega
    go_enter Try.func18, Try.ntmps18
    go_wp2
    exact bodyPost_ret (v := .tuple #[.agg #[.int .i64 0, .int .i64 0, .int .i64 0, .int .i64 0, .int .i64 0], .int .i64 120]) (by simp [results, Try.results18, go_sem]) rfl ⟨rfl, (Below.refl _ _).alloc (Nat.le_refl _) _⟩

theorem big_year (y m r R : Int) (h1 : 1 ≤ y) (hm : 1 ≤ m) (hm2 : m ≤ 12) (h : Civ.ahd y + Civ.cum y m + r = R) : 365 * (y - 1) + r ≤ R := by
  have := ahd_big y _ h1 rfl
  have := Civ.cum_bd y m hm (by omega)
  omega

set_option maxHeartbeats 1000000 in
theorem rdate_yes (n : Int) (w : World) (h : 0 ≤ n) (h2 : n ≤ 1099511627776) :
    Calls Try.prog 18 #[.int .i64 n] w (RDated n w) := by
  have hd0 : 0 ≤ n / 1440 := by omega
  have hd1 : n / 1440 ≤ 763549741 := by omega
  have hwd0 : 0 ≤ (n / 1440 + 3) % 7 := by omega
  have hmi0 : 0 ≤ n % 1440 := by omega
  obtain ⟨N, hN⟩ : ∃ N, N = n / 1440 := ⟨_, rfl⟩
  have hq0 : 0 ≤ N / 146097 := by omega
  have hq1 : N / 146097 ≤ 6000 := by omega
  have hr0 : 0 ≤ N % 146097 := by omega
  have hstart : Civ.ahd (1970 + 400 * (N / 146097)) + Civ.cum (1970 + 400 * (N / 146097)) 1 + N % 146097 = N + 719162 := by
    rw [Civ.ahd_cycle, Civ.cum_one]; have : Civ.ahd 1970 = 719162 := by decide
    omega
  have HS := Lib.hid hstart
  clear hstart
  rw [hN] at hq0 hq1 hr0 HS
  clear hN N
  go_enter Try.func18, Try.ntmps18
  go_wp2
  go_loop [4, 6, 7] (fun a b c => ∃ r y m : Int, a = .int .i64 r ∧ b = .int .i64 y ∧ c = .int .i64 m ∧ 1 ≤ y ∧ 1 ≤ m ∧ m ≤ 12 ∧ 0 ≤ r ∧ Hid (Civ.ahd y + Civ.cum y m + r = n / 1440 + 719162)) (fun a _ _ => (intOf a).toNat)
  case atStart => exact ⟨_, _, _, rfl, rfl, rfl, by omega, by omega, by omega, hr0, HS⟩
  case round =>
    clear HS
    obtain ⟨r, y, m, rfl, rfl, rfl, hy1, hm1, hm2, hr, HR⟩ := hrel
    have hyb := big_year y m r _ hy1 hm1 hm2 HR.out
    have hyb2 : y ≤ 2200000 := by omega
    have hrb : r ≤ 800000000 := by omega
    clear hyb
    obtain ⟨D, hD⟩ : ∃ D, Civ.dim y m = D := ⟨_, rfl⟩
    have hDb := Civ.dim_bd y m hy1 hm1 hm2
    rw [hD] at hDb
    have hD1 := hDb.1
    have hD2 := hDb.2
    clear hDb
    have hcs := Civ.cum_succ y m hy1 hm1 hm2
    rw [hD] at hcs
    have HC := Lib.hid hcs
    have HD := Lib.hid hD
    have H : Hid (∀ w, Calls Try.prog 16 #[.int .i64 y, .int .i64 m] w fun e w' => e = .returned (.int .i64 D) ∧ w = w') := Lib.hid (fun w => by have := rdays_any y m w; rw [hD] at this; exact this)
    clear hcs hD
    by_cases hge : D ≤ r
    · by_cases hm12 : m = 12
      · subst hm12
        go_wp2_with (go_at_call 16; refine (H.out _).mono ?_; rintro e w2 ⟨rfl, rfl⟩)
        go_round
        case rel =>
          refine ⟨_, _, _, rfl, rfl, rfl, by omega, by omega, by omega, by omega, ?_⟩
          show _ = _
          have a1 := HR.out
          have a2 := HC.out
          have a3 := Civ.ahd_succ y hy1
          have a4 : Civ.cum y (12 + 1) = 365 + Civ.lp y := Civ.cum_end y
          have a5 := Civ.cum_one (y + 1)
          omega
        case measure => simp [intOf]; omega
      · have hm11 : m ≤ 11 := by omega
        clear hm12
        go_wp2_with (go_at_call 16; refine (H.out _).mono ?_; rintro e w2 ⟨rfl, rfl⟩)
        go_round
        case rel =>
          refine ⟨_, _, _, rfl, rfl, rfl, by omega, by omega, by omega, by omega, ?_⟩
          show _ = _
          have a1 := HR.out
          have a2 := HC.out
          omega
        case measure => simp [intOf]; omega
    · have hfin : Civ.IsDate (n / 1440 + 719162) y m (r + 1) := by
        have a1 := HR.out; have a2 := HD.out
        exact ⟨hy1, hm1, hm2, by omega, by omega, by omega⟩
      go_wp2_with (go_at_call 16; refine (H.out _).mono ?_; rintro e w2 ⟨rfl, rfl⟩)
      refine bodyPost_ret (v := .tuple #[.agg #[.int .i64 y, .int .i64 m, .int .i64 (r + 1), .int .i64 ((n / 1440 + 3) % 7), .int .i64 (n % 1440)], .int .i64 0]) (by simp [results, Try.results18, go_sem]) rfl ⟨⟨y, m, r + 1, rfl, hfin⟩, ?_⟩
      exact (Below.refl _ _).alloc (Nat.le_refl _) _

def RMinuted (v : Int) (w : World) (e : Ending) (w' : World) : Prop :=
  e = .returned (if v ≤ 1099511627776 then .tuple #[.int .i64 v, .int .i64 0] else .tuple #[.int .i64 0, .int .i64 120]) ∧ w = w'
/-- the reference's Minute refuses by a wider year: what is beyond the code's own last year is too late all the same -/
def rmnBad (y m d mi : Int) : Prop := y < 1970 ∨ 3000000 < y ∨ d < 1 ∨ Civ.dim y m < d ∨ mi < 0 ∨ 1440 ≤ mi
set_option maxHeartbeats 1000000 in
theorem rminute_bad (y m d mi : Int) (w : World) (h : rmnBad y m d mi) :
    Calls Try.prog 12 #[.int .i64 y, .int .i64 m, .int .i64 d, .int .i64 mi] w fun e w' => e = .returned (.tuple #[.int .i64 0, .int .i64 120]) ∧ w = w' := by
  unfold rmnBad at h
  by_cases h1 : y < 1970
  · clear h
    go_enter Try.func12, Try.ntmps12
    go_wp2
    go_ret2
    exact ⟨rfl, rfl⟩
  by_cases h2 : 3000000 < y
  · clear h
    go_enter Try.func12, Try.ntmps12
    go_wp2
    go_ret2
    exact ⟨rfl, rfl⟩
  by_cases h3 : d < 1
  · clear h
    go_enter Try.func12, Try.ntmps12
    go_wp2
    go_ret2
    exact ⟨rfl, rfl⟩
  obtain ⟨D, hD⟩ : ∃ D, Civ.dim y m = D := ⟨_, rfl⟩
  rw [hD] at h
  have HC : Hid (∀ w, Calls Try.prog 16 #[.int .i64 y, .int .i64 m] w fun e w' => e = .returned (.int .i64 D) ∧ w = w') := Lib.hid (fun w => by have := rdays_any y m w; rw [hD] at this; exact this)
  clear hD
  by_cases h4 : D < d
  · clear h
    go_enter Try.func12, Try.ntmps12
    go_wp2_with (go_at_call 16; refine (HC.out _).mono ?_; rintro e w1 ⟨rfl, rfl⟩)
    go_ret2
    exact ⟨rfl, rfl⟩
  by_cases h5 : mi < 0
  · clear h
    go_enter Try.func12, Try.ntmps12
    go_wp2_with (go_at_call 16; refine (HC.out _).mono ?_; rintro e w1 ⟨rfl, rfl⟩)
    go_ret2
    exact ⟨rfl, rfl⟩
  · have h6 : 1440 ≤ mi := by omega
    clear h
    go_enter Try.func12, Try.ntmps12
    go_wp2_with (go_at_call 16; refine (HC.out _).mono ?_; rintro e w1 ⟨rfl, rfl⟩)
    go_ret2
    exact ⟨rfl, rfl⟩

set_option maxRecDepth 100000 in
set_option maxHeartbeats 1000000 in
theorem rminute_good (y m d mi : Int) (w : World) (h : ¬ rmnBad y m d mi) :
    Calls Try.prog 12 #[.int .i64 y, .int .i64 m, .int .i64 d, .int .i64 mi] w (RMinuted (mnVal y m d mi) w) := by
  unfold rmnBad at h
  have hy1 : 1970 ≤ y := by omega
  have hy2 : y ≤ 3000000 := by omega
  have hd1 : 1 ≤ d := by omega
  have hmi0 : 0 ≤ mi := by omega
  have hmi1 : mi < 1440 := by omega
  have hdm := Civ.dim_le y m
  have hm : 1 ≤ m ∧ m ≤ 12 := by
    by_cases hm : m < 1 ∨ 12 < m
    · have : Civ.dim y m = 0 := by unfold Civ.dim; rw [if_pos (by omega)]
      omega
    · omega
  have hm1 := hm.1
  have hm2 := hm.2
  clear hm
  obtain ⟨D, hD⟩ : ∃ D, Civ.dim y m = D := ⟨_, rfl⟩
  rw [hD] at h hdm
  have HC : Hid (∀ w, Calls Try.prog 16 #[.int .i64 y, .int .i64 m] w fun e w' => e = .returned (.int .i64 D) ∧ w = w') := Lib.hid (fun w => by have := rdays_any y m w; rw [hD] at this; exact this)
  clear hD
  have hd2 : d ≤ D := by omega
  have hD31 : D ≤ 31 := hdm.2
  clear h hdm
  have hq0 : 0 ≤ (y - 1970) / 400 := by omega
  have hq1 : (y - 1970) / 400 ≤ 8000 := by omega
  have hq2 : 1970 + (y - 1970) / 400 * 400 ≤ y := by omega
  have hstart : (y - 1970) / 400 * 146097 = Civ.ahd (1970 + (y - 1970) / 400 * 400) - 719162 := by
    rw [show 1970 + (y - 1970) / 400 * 400 = 1970 + 400 * ((y - 1970) / 400) from by omega, Civ.ahd_cycle]; have : Civ.ahd 1970 = 719162 := by decide
    omega
  have HS := Lib.hid hstart
  clear hstart
  go_enter Try.func12, Try.ntmps12
  go_wp2_with fail
  refine (HC.out _).mono ?_
  rintro e w1 ⟨rfl, rfl⟩
  go_wp2
  go_loop [10, 11] (fun a b => ∃ s x : Int, a = .int .i64 s ∧ b = .int .i64 x ∧ 1970 ≤ x ∧ x ≤ y ∧ 0 ≤ s ∧ s ≤ 1200000000 ∧ Hid (s = Civ.ahd x - 719162)) (fun _ b => (y - intOf b).toNat)
  case atStart => exact ⟨_, _, rfl, rfl, by omega, by omega, by omega, by omega, HS⟩
  case round =>
    clear HS hq0 hq1 hq2
    obtain ⟨s, x, rfl, rfl, hx1, hx2, hs1, hs2, HR⟩ := hrel
    by_cases hlt : x < y
    · have hsucc := Civ.ahd_succ x (by omega)
      have hbig : Civ.ahd (x + 1) - 719162 ≤ 1100000000 := by unfold Civ.ahd; omega
      unfold Civ.lp at hsucc
      cases hl : Civ.leap x with
      | true =>
        rw [hl, if_pos rfl] at hsucc
        have hs3 : s ≤ 1110000000 := by have := HR.out; omega
        have HB := Lib.hid hbig
        have HSu := Lib.hid hsucc
        have H : Hid (∀ w, Calls Try.prog 14 #[.int .i64 x] w fun e w' => e = .returned (.bool true) ∧ w = w') := Lib.hid (fun w => by have := rleap_any x w; rw [hl] at this; exact this)
        clear hl hsucc hbig
        go_wp2_with (go_at_call 14; refine (H.out _).mono ?_; rintro e w2 ⟨rfl, rfl⟩)
        go_round
        case rel => exact ⟨_, _, rfl, rfl, by omega, by omega, by omega, by omega, by show _ = _; rw [HSu.out]; have := HR.out; omega⟩
        case measure => simp [intOf]; omega
      | false =>
        rw [hl, if_neg (by decide)] at hsucc
        have hs3 : s ≤ 1110000000 := by have := HR.out; omega
        have HB := Lib.hid hbig
        have HSu := Lib.hid hsucc
        have H : Hid (∀ w, Calls Try.prog 14 #[.int .i64 x] w fun e w' => e = .returned (.bool false) ∧ w = w') := Lib.hid (fun w => by have := rleap_any x w; rw [hl] at this; exact this)
        clear hl hsucc hbig
        go_wp2_with (go_at_call 14; refine (H.out _).mono ?_; rintro e w2 ⟨rfl, rfl⟩)
        go_round
        case rel => exact ⟨_, _, rfl, rfl, by omega, by omega, by omega, by omega, by show _ = _; rw [HSu.out]; have := HR.out; omega⟩
        case measure => simp [intOf]; omega
    · obtain rfl : x = y := by omega
      have hlt' : ¬ x < x := by omega
      go_wp2
      go_loop [10, 12] (fun a b => ∃ t k : Int, a = .int .i64 t ∧ b = .int .i64 k ∧ 1 ≤ k ∧ k ≤ m ∧ 0 ≤ t ∧ t ≤ 1300000000 ∧ Hid (t = s + Civ.cum x k)) (fun _ b => (m - intOf b).toNat)
      case atStart => exact ⟨_, _, rfl, rfl, by omega, by omega, by omega, by omega, by show _ = _; rw [Civ.cum_one]; omega⟩
      case round =>
        obtain ⟨t, k, rfl, rfl, hk1, hk2, ht1, ht2, HT⟩ := hrel
        by_cases hkm : k < m
        · have hsucc := Civ.cum_succ x k (by omega) hk1 (by omega)
          have hbd := Civ.cum_bd x (k + 1) (by omega) (by omega)
          have hbd1 := Civ.cum_bd x k (by omega) (by omega)
          obtain ⟨E, hE⟩ : ∃ E, Civ.dim x k = E := ⟨_, rfl⟩
          have hEb := Civ.dim_le x k
          rw [hE] at hsucc hEb
          have hE1 := hEb.1
          have hE2 := hEb.2
          have ht3 : t ≤ 1200000400 := by have := HT.out; omega
          have ht4 : t + E ≤ 1200000400 := by have := HT.out; omega
          have H : Hid (∀ w, Calls Try.prog 16 #[.int .i64 x, .int .i64 k] w fun e w' => e = .returned (.int .i64 E) ∧ w = w') := Lib.hid (fun w => by have := rdays_any x k w; rw [hE] at this; exact this)
          have HSu := Lib.hid hsucc
          clear hEb hE hbd hbd1 hsucc
          go_wp2_with (go_at_call 16; refine (H.out _).mono ?_; rintro e w2 ⟨rfl, rfl⟩)
          go_round
          case rel => exact ⟨_, _, rfl, rfl, by omega, by omega, by omega, by omega, by show _ = _; rw [HSu.out]; have := HT.out; omega⟩
          case measure => simp [intOf]; omega
        · obtain rfl : k = m := by omega
          have hkm' : ¬ k < k := by omega
          have hv : Hid (mnVal x k d mi = (t + d - 1) * 1440 + mi) := by
            show _ = _
            unfold mnVal; have := HT.out; have := HR.out; omega
          by_cases hle : (t + d - 1) * 1440 + mi ≤ 1099511627776
          · go_wp2
            go_ret2
            exact ⟨by rw [hv.out, if_pos hle]; rfl, rfl⟩
          · go_wp2
            go_ret2
            exact ⟨by rw [hv.out, if_neg (by omega)]; rfl, rfl⟩

end Go.Proofs.Ytfpmldmgiajgoaa

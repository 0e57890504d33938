/- The chapter's examples: tocsinlaw12.awake answers true. -/
import Derived.Test.YtfpmldmgiajgoaaCivF
import Derived.Lib.QuietBelow
namespace Go.Proofs.Ytfpmldmgiajgoaa
open Go.RowKit Go.Shelf

theorem cells5 {W w' : World} {a b c d e : Value} {t : TypeId} {B : Nat} (hb : Below B (W.alloc (.cells #[a, b, c, d, e] t)) w') (h : W.heap.size < B) :
    w'.cell? ⟨W.heap.size, 0, none⟩ = some a ∧ w'.cell? ⟨W.heap.size, 1, none⟩ = some b ∧ w'.cell? ⟨W.heap.size, 2, none⟩ = some c ∧ w'.cell? ⟨W.heap.size, 3, none⟩ = some d ∧ w'.cell? ⟨W.heap.size, 4, none⟩ = some e := by
  refine ⟨(hb.cell (p := ⟨W.heap.size, 0, none⟩) h).trans ?_, (hb.cell (p := ⟨W.heap.size, 1, none⟩) h).trans ?_, (hb.cell (p := ⟨W.heap.size, 2, none⟩) h).trans ?_, (hb.cell (p := ⟨W.heap.size, 3, none⟩) h).trans ?_, (hb.cell (p := ⟨W.heap.size, 4, none⟩) h).trans ?_⟩ <;> simp

theorem date_lit (n N y m d wd mi : Int) (w : World) (h : 0 ≤ n) (h2 : n ≤ 1099511627776) (hN : n / 1440 + 719162 = N) (hd : Civ.IsDate N y m d) (hwd : (n / 1440 + 3) % 7 = wd) (hmi : n % 1440 = mi) :
    Calls Try.prog 17 #[.int .i64 n] w fun e w' => e = .returned (.tuple #[.agg #[.int .i64 y, .int .i64 m, .int .i64 d, .int .i64 wd, .int .i64 mi], .int .i64 0]) ∧ Below w.heap.size w w' := by
  have e := Civ.isDate_of hd
  have := date_any n w h h2
  rw [hN, hwd, hmi, e.1, e.2.1, e.2.2] at this
  exact this
theorem date_0 (w : World) : Calls Try.prog 17 #[.int .i64 0] w fun e w' => e = .returned (.tuple #[.agg #[.int .i64 1970, .int .i64 1, .int .i64 1, .int .i64 3, .int .i64 0], .int .i64 0]) ∧ Below w.heap.size w w' :=
  date_lit 0 719162 1970 1 1 3 0 w (by decide) (by decide) (by decide) ⟨by decide, by decide, by decide, by decide, by decide, by decide⟩ (by decide) (by decide)
theorem date_84960 (w : World) : Calls Try.prog 17 #[.int .i64 84960] w fun e w' => e = .returned (.tuple #[.agg #[.int .i64 1970, .int .i64 3, .int .i64 1, .int .i64 6, .int .i64 0], .int .i64 0]) ∧ Below w.heap.size w w' :=
  date_lit 84960 719221 1970 3 1 6 0 w (by decide) (by decide) (by decide) ⟨by decide, by decide, by decide, by decide, by decide, by decide⟩ (by decide) (by decide)
theorem minute_lit (y m d mi v c : Int) (w : World) (hv : mnN y m d mi = v) (hc : mnE y m d mi = c) :
    Calls Try.prog 11 #[.int .i64 y, .int .i64 m, .int .i64 d, .int .i64 mi] w fun e w' => e = .returned (.tuple #[.int .i64 v, .int .i64 c]) ∧ Below w.heap.size w w' := by
  have := minute_any y m d mi w
  rw [hv, hc] at this; exact this
theorem days_lit (y m v : Int) (w : World) (hv : Civ.dim y m = v) :
    Calls Try.prog 15 #[.int .i64 y, .int .i64 m] w fun e w' => e = .returned (.int .i64 v) ∧ Below w.heap.size w w' := by
  have := days_any y m w
  rw [hv] at this; exact this
theorem leap_lit (y : Int) (v : Bool) (w : World) (hv : Civ.leap y = v) :
    Calls Try.prog 13 #[.int .i64 y] w fun e w' => e = .returned (.bool v) ∧ w = w' := by
  have := leap_any y w
  rw [hv] at this; exact this
theorem v1 : mnN 1972 2 29 5 = 1136165 ∧ mnE 1972 2 29 5 = 0 ∧ mnN 1970 2 29 0 = 0 ∧ mnE 1970 2 29 0 = 120 := by
  simp [mnN, mnE, mnBad, mnVal, Civ.dim, Civ.lp, Civ.leap, Civ.ahd, Civ.cum]

set_option maxRecDepth 100000 in
set_option maxHeartbeats 1000000 in
theorem awake_any (w : World) : Calls Try.prog 19 #[] w fun e w' => e = .returned (.bool true) ∧ Below w.heap.size w w' := by
  go_enter Try.func19, Try.ntmps19
  go_wp2_with fail
  refine (date_0 _).mono ?_
  rintro e w1 ⟨rfl, hb1⟩
  go_wp2_with fail
  refine (date_84960 _).mono ?_
  rintro e w2 ⟨rfl, hb2⟩
  obtain ⟨c0, c1, c2, c3, c4⟩ := cells5 hb2 (by simp)
  have hz1 : w1.heap.size < w2.heap.size := by have := hb2.size; simp at this; omega
  have hB2 : Below w.heap.size w w2 := (hb1.alloc hb1.size _).trans (hb2.mono (by have := hb1.size; simp; omega))
  clear hb2 hb1
  go_wp2_with fail
  refine (date_no (-1) _ (by omega)).mono ?_
  rintro e w3 ⟨rfl, hb3⟩
  obtain ⟨d0, d1, d2, d3, d4⟩ := cells5 hb3 (by simp)
  have hz2 : w2.heap.size < w3.heap.size := by have := hb3.size; simp at this; omega
  have hB3 : Below w.heap.size w w3 := (hB2.alloc hB2.size _).trans (hb3.mono (by have := hB2.size; simp; omega))
  have k : ∀ o, w3.cell? ⟨w1.heap.size, o, none⟩ = w2.cell? ⟨w1.heap.size, o, none⟩ := fun o => (hb3.cell (p := ⟨w1.heap.size, o, none⟩) (by simp; omega)).trans (World.cell?_alloc_old _ _ _ (by simp; omega))
  have c0 := (k 0).trans c0; have c1 := (k 1).trans c1; have c2 := (k 2).trans c2; have c3 := (k 3).trans c3; have c4 := (k 4).trans c4
  clear k hb3 hB2
  go_wp2_with fail
  refine (minute_lit _ _ _ _ 1136165 0 _ v1.1 v1.2.1).mono ?_
  rintro e w4 ⟨rfl, hb4⟩
  go_wp2_with fail
  refine (minute_lit _ _ _ _ 0 120 _ v1.2.2.1 v1.2.2.2).mono ?_
  rintro e w5 ⟨rfl, hb5⟩
  have hb45 : Below (w3.heap.size + 1) (w3.alloc (.cells #[.int .i64 0, .int .i64 0, .int .i64 0, .int .i64 0, .int .i64 0] 31)) w5 := by
    have e : (w3.alloc (.cells #[.int .i64 0, .int .i64 0, .int .i64 0, .int .i64 0, .int .i64 0] 31)).heap.size = w3.heap.size + 1 := by simp
    rw [e] at hb4
    exact hb4.trans (hb5.mono (by have := hb4.size; simp at this; omega))
  have hB5 : Below w.heap.size w w5 := (hB3.alloc hB3.size _).trans (hb45.mono (by have := hB3.size; omega))
  have k : ∀ b o, b < w3.heap.size → w5.cell? ⟨b, o, none⟩ = w3.cell? ⟨b, o, none⟩ := fun b o hb => (hb45.cell (p := ⟨b, o, none⟩) (by simp; omega)).trans (World.cell?_alloc_old _ _ _ (by simp; omega))
  have c0 := (k _ 0 (by omega)).trans c0; have c1 := (k _ 1 (by omega)).trans c1; have c2 := (k _ 2 (by omega)).trans c2; have c3 := (k _ 3 (by omega)).trans c3; have c4 := (k _ 4 (by omega)).trans c4
  have d0 := (k _ 0 (by omega)).trans d0; have d1 := (k _ 1 (by omega)).trans d1; have d2 := (k _ 2 (by omega)).trans d2; have d3 := (k _ 3 (by omega)).trans d3; have d4 := (k _ 4 (by omega)).trans d4
  clear k hb4 hb5 hb45
  go_wp2_with fail
  refine (leap_lit _ true _ (by decide)).mono ?_
  rintro e w6 ⟨rfl, rfl⟩
  go_wp2_with fail
  refine (leap_lit _ false _ (by decide)).mono ?_
  rintro e w6 ⟨rfl, rfl⟩
  go_wp2_with fail
  refine (days_lit _ _ 29 _ (by decide)).mono ?_
  rintro e w6 ⟨rfl, hb6⟩
  go_wp2_with fail
  go_ret
  exact ⟨rfl, hB5.trans (hb6.mono hB5.size)⟩

end Go.Proofs.Ytfpmldmgiajgoaa

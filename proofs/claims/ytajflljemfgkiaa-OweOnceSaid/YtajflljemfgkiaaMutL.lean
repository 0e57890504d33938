/- A mute, an array of seven bools, as arguments. -/
import Derived.Test.YtajflljemfgkiaaMut
import Derived.Test.YtajflljemfgkiaaFrame
namespace Go.Proofs.Ytajflljemfgkiaa
open Go.ChangeShapes Go.WideShapes Go.ChangeAt Go.RowKit Mut

theorem bool_cell {H : Type} {enc : TypeId × Value → H} {W : World} {base : Nat} {sp : Nat → Bool} {held : Bool} {fuel : Nat} {c : Value} {x : Option (DataW H × List MemPlace)} (h : DataW.trod enc Try.prog W base sp held fuel 4 [c] = x) (hx : x.isSome = true) : ∃ b, c = .bool b := by
  obtain ⟨y, rfl⟩ := Option.isSome_iff_exists.1 hx
  obtain ⟨b, hb, _⟩ := DataW.trod_bool underlying_bool h
  exact ⟨b, by simpa using hb⟩

theorem days_cells {H : Type} {enc : TypeId × Value → H} {W : World} {base : Nat} {sp : Nat → Bool} {held : Bool} {fuel : Nat} {c0 c1 c2 c3 c4 c5 c6 : Value} {x : DataW H × List MemPlace} (h : DataW.trod enc Try.prog W base sp held fuel 44 [c0, c1, c2, c3, c4, c5, c6] = some x) :
    ∃ b0 b1 b2 b3 b4 b5 b6, c0 = .bool b0 ∧ c1 = .bool b1 ∧ c2 = .bool b2 ∧ c3 = .bool b3 ∧ c4 = .bool b4 ∧ c5 = .bool b5 ∧ c6 = .bool b6 := by
  obtain ⟨xs, k, _, _, _, hl, hi⟩ := DataW.trod_array (n := 7) (e := 4) (by kernel_rfl) h
  have hC : Try.prog.cellsOf 4 = 1 := by kernel_rfl
  rw [hC] at hi
  have sm : ∀ i, i < 7 → (xs[i]?).isSome = true := fun i h => by rw [List.getElem?_eq_getElem (by omega)]; rfl
  obtain ⟨b0, e0⟩ := bool_cell (hi 0 (by omega)) (sm 0 (by omega))
  obtain ⟨b1, e1⟩ := bool_cell (hi 1 (by omega)) (sm 1 (by omega))
  obtain ⟨b2, e2⟩ := bool_cell (hi 2 (by omega)) (sm 2 (by omega))
  obtain ⟨b3, e3⟩ := bool_cell (hi 3 (by omega)) (sm 3 (by omega))
  obtain ⟨b4, e4⟩ := bool_cell (hi 4 (by omega)) (sm 4 (by omega))
  obtain ⟨b5, e5⟩ := bool_cell (hi 5 (by omega)) (sm 5 (by omega))
  obtain ⟨b6, e6⟩ := bool_cell (hi 6 (by omega)) (sm 6 (by omega))
  exact ⟨b0, b1, b2, b3, b4, b5, b6, e0, e1, e2, e3, e4, e5, e6⟩

abbrev muteFields : Array Field := #[{ name := "Name", type := 9, offset := 0, byteOffset := 0, embedded := false, pkgPath := "", tag := "" }, { name := "Days", type := 44, offset := 1, byteOffset := 16, embedded := false, pkgPath := "", tag := "" }, { name := "From", type := 3, offset := 8, byteOffset := 24, embedded := false, pkgPath := "", tag := "" }, { name := "To", type := 3, offset := 9, byteOffset := 32, embedded := false, pkgPath := "", tag := "" }]
theorem underlying_mute : Try.prog.underlying 46 = some (.struct muteFields) := by kernel_rfl
theorem cellsOf_mute : Try.prog.cellsOf 46 = 10 := by kernel_rfl

theorem mute_cells_trod {H : Type} {enc : TypeId × Value → H} {W : World} {base : Nat} {sp : Nat → Bool} {held : Bool} {fuel : Nat} {cs : List Value} {x : DataW H × List MemPlace} (h : DataW.trod enc Try.prog W base sp held fuel 46 cs = some x) : ∃ m : MuteD, cs = #[.string m.nm, .bool m.d0, .bool m.d1, .bool m.d2, .bool m.d3, .bool m.d4, .bool m.d5, .bool m.d6, .int .i64 m.f, .int .i64 m.t].toList := by
  obtain ⟨xs, k, _, _, hl, hx, hf⟩ := DataW.trod_struct underlying_mute h
  rw [cellsOf_mute] at hl
  match cs, hl with
  | [c0, c1, c2, c3, c4, c5, c6, c7, c8, c9], _ =>
    have sm : ∀ i, i < 4 → ∃ y, xs[i]? = some y := fun i h => ⟨_, List.getElem?_eq_getElem (by rw [hx]; exact h)⟩
    obtain ⟨y0, e0⟩ := sm 0 (by omega)
    obtain ⟨y1, e1⟩ := sm 1 (by omega)
    obtain ⟨y2, e2⟩ := sm 2 (by omega)
    obtain ⟨y3, e3⟩ := sm 3 (by omega)
    have h0 : DataW.trod enc Try.prog W base sp held k 9 (([c0, c1, c2, c3, c4, c5, c6, c7, c8, c9].drop 0).take (Try.prog.cellsOf 9)) = xs[0]? := hf 0 _ rfl
    have h1 : DataW.trod enc Try.prog W base sp held k 44 (([c0, c1, c2, c3, c4, c5, c6, c7, c8, c9].drop 1).take (Try.prog.cellsOf 44)) = xs[1]? := hf 1 _ rfl
    have h2 : DataW.trod enc Try.prog W base sp held k 3 (([c0, c1, c2, c3, c4, c5, c6, c7, c8, c9].drop 8).take (Try.prog.cellsOf 3)) = xs[2]? := hf 2 _ rfl
    have h3 : DataW.trod enc Try.prog W base sp held k 3 (([c0, c1, c2, c3, c4, c5, c6, c7, c8, c9].drop 9).take (Try.prog.cellsOf 3)) = xs[3]? := hf 3 _ rfl
    rw [e0] at h0
    rw [e1] at h1
    rw [e2] at h2
    rw [e3] at h3
    have C0 : Try.prog.cellsOf 9 = 1 := by kernel_rfl
    have C1 : Try.prog.cellsOf 44 = 7 := by kernel_rfl
    have C2 : Try.prog.cellsOf 3 = 1 := by kernel_rfl
    rw [C0] at h0
    rw [C1] at h1
    rw [C2] at h2 h3
    obtain ⟨s, hs, _⟩ := DataW.trod_string (by kernel_rfl) h0
    obtain ⟨b0, b1, b2, b3, b4, b5, b6, g0, g1, g2, g3, g4, g5, g6⟩ := days_cells h1
    obtain ⟨f, hf', _⟩ := DataW.trod_int (k := .i64) (by kernel_rfl) h2
    obtain ⟨t, ht, _⟩ := DataW.trod_int (k := .i64) (by kernel_rfl) h3
    refine ⟨{ nm := s, d0 := b0, d1 := b1, d2 := b2, d3 := b3, d4 := b4, d5 := b5, d6 := b6, f := f, t := t }, ?_⟩
    simp at hs hf' ht
    simp [hs, g0, g1, g2, g3, g4, g5, g6, hf', ht]

theorem open_mute {H : Type} {enc : TypeId × Value → H} {r : Reach} {b0 : Nat} {W : World} {base : Nat} {sp : Nat → Bool} {held : Bool} {v : Value} {d : DataW H} {p : List MemPlace} (hv : Value.okWide Try.prog W r b0 46 v) (h : DataW.Trod enc Try.prog W base sp held 46 v d p) : ∃ m : MuteD, v = .agg #[.string m.nm, .bool m.d0, .bool m.d1, .bool m.d2, .bool m.d3, .bool m.d4, .bool m.d5, .bool m.d6, .int .i64 m.f, .int .i64 m.t] := by
  obtain ⟨cs, rfl, hsz⟩ := okWide_struct underlying_mute hv
  obtain ⟨fuel, hf⟩ := h
  obtain ⟨m, hm⟩ := mute_cells_trod hf
  refine ⟨m, ?_⟩
  have : cs.toList = #[.string m.nm, .bool m.d0, .bool m.d1, .bool m.d2, .bool m.d3, .bool m.d4, .bool m.d5, .bool m.d6, .int .i64 m.f, .int .i64 m.t].toList := hm
  rw [Array.toList_inj.1 this]

theorem open_days {H : Type} {enc : TypeId × Value → H} {r : Reach} {b0 : Nat} {W : World} {base : Nat} {sp : Nat → Bool} {held : Bool} {v : Value} {d : DataW H} {p : List MemPlace} (hv : Value.okWide Try.prog W r b0 44 v) (h : DataW.Trod enc Try.prog W base sp held 44 v d p) : ∃ b0 b1 b2 b3 b4 b5 b6, v = .agg #[.bool b0, .bool b1, .bool b2, .bool b3, .bool b4, .bool b5, .bool b6] := by
  have hu : Try.prog.underlying 44 = some (.array 7 4) := by kernel_rfl
  have hC : Try.prog.cellsOf 44 = 7 := by kernel_rfl
  obtain ⟨cs, rfl, hsz⟩ : ∃ cs, v = .agg cs ∧ cs.size = Try.prog.cellsOf 44 := by
    simp only [Value.okWide, hu] at hv
    obtain ⟨cs, h1, h2, _⟩ := hv
    exact ⟨cs, h1, h2⟩
  obtain ⟨l⟩ := cs
  rw [hC] at hsz
  obtain ⟨fuel, hf⟩ := h
  match l, hsz with
  | [c0, c1, c2, c3, c4, c5, c6], _ =>
    obtain ⟨b0, b1, b2, b3, b4, b5, b6, rfl, rfl, rfl, rfl, rfl, rfl, rfl⟩ := days_cells hf
    exact ⟨b0, b1, b2, b3, b4, b5, b6, rfl⟩
end Go.Proofs.Ytajflljemfgkiaa

/- The arguments of owe's laws, opened. (Printed by tools/genopen.py.) -/
import Derived.Test.YtajflljemfgkiaaQOpn
import Derived.Test.YtajflljemfgkiaaMutL
import Derived.Test.YtajflljemfgkiaaEGrt
namespace Go.Proofs.Ytajflljemfgkiaa
open Go.ChangeShapes Go.WideShapes Go.ChangeAt Go.RowKit Mut
theorem trod_ks {H : Type} {encH : TypeId × Value → H} {W : World} {base : Nat} {sp : Nat → Bool} {held : Bool} {fuel : Nat} {cs : List Value} {y : DataW H × List MemPlace} (h : DataW.trod encH Try.prog W base sp held fuel 23 cs = some y) : ∃ v xs, cs = [v] ∧ Sl (fun _ => True) W v 1 encS xs ∧ ∀ x ∈ xs, True :=
  open_rows (T := 23) (E := 9) (size := 1) (G := fun _ => True) (by kernel_rfl) (by kernel_rfl) (by decide) encS (fun _ => rfl) (fun {n cs y} h => by
    obtain ⟨z, hz, h2⟩ := DataW.trod_string (by kernel_rfl) h
    exact ⟨z, by simpa using hz, trivial⟩) h
theorem trod_mutes {H : Type} {encH : TypeId × Value → H} {W : World} {base : Nat} {sp : Nat → Bool} {held : Bool} {fuel : Nat} {cs : List Value} {y : DataW H × List MemPlace} (h : DataW.trod encH Try.prog W base sp held fuel 41 cs = some y) : ∃ v xs, cs = [v] ∧ Sl (fun _ => True) W v 10 encU xs ∧ ∀ x ∈ xs, True :=
  open_rows (T := 41) (E := 46) (size := 10) (G := fun _ => True) (by kernel_rfl) cellsOf_mute (by decide) encU (fun _ => rfl) (fun {n cs y} h => by
    obtain ⟨m, hm⟩ := mute_cells_trod h
    exact ⟨m, hm, trivial⟩) h
theorem trod_nodes {H : Type} {encH : TypeId × Value → H} {W : World} {base : Nat} {sp : Nat → Bool} {held : Bool} {fuel : Nat} {cs : List Value} {y : DataW H × List MemPlace} (h : DataW.trod encH Try.prog W base sp held fuel 22 cs = some y) : ∃ (v : Value) (_ : Unit), cs = [v] ∧ v.oneCell' = true ∧ True := by
  rcases Go.Deep.open_slice (e := 99) (by kernel_rfl) h with ⟨hc, _⟩ | ⟨a, len, cap, m, n, D, Pl, hcs, _⟩
  · exact ⟨_, (), hc, rfl, trivial⟩
  · exact ⟨_, (), hcs, rfl, trivial⟩
abbrev flds_rule : Array Field := #[{ name := "Name", type := 9, offset := 0, byteOffset := 0, embedded := false, pkgPath := "", tag := "" }, { name := "By", type := 9, offset := 1, byteOffset := 16, embedded := false, pkgPath := "", tag := "" }, { name := "Nodes", type := 22, offset := 2, byteOffset := 32, embedded := false, pkgPath := "", tag := "" }, { name := "For", type := 3, offset := 3, byteOffset := 56, embedded := false, pkgPath := "", tag := "" }, { name := "Every", type := 3, offset := 4, byteOffset := 64, embedded := false, pkgPath := "", tag := "" }, { name := "Repeat", type := 3, offset := 5, byteOffset := 72, embedded := false, pkgPath := "", tag := "" }, { name := "Mutes", type := 23, offset := 6, byteOffset := 80, embedded := false, pkgPath := "", tag := "" }, { name := "Route", type := 9, offset := 7, byteOffset := 104, embedded := false, pkgPath := "", tag := "" }]
theorem under_rule : Try.prog.underlying 25 = some (.struct flds_rule) := by kernel_rfl
theorem cells_rule : Try.prog.cellsOf 25 = 8 := by kernel_rfl
theorem trod_rule {H : Type} {encH : TypeId × Value → H} {W : World} {base : Nat} {sp : Nat → Bool} {held : Bool} {fuel : Nat} {cs : List Value} {y : DataW H × List MemPlace} (h : DataW.trod encH Try.prog W base sp held fuel 25 cs = some y) : ∃ x : Rl, cs = (rc x).toList ∧ Ro (fun _ => True) W x := by
  obtain ⟨xs, k, _, _, hl, hx, hf⟩ := DataW.trod_struct under_rule h
  rw [cells_rule] at hl
  match cs, hl with
  | [c0, c1, c2, c3, c4, c5, c6, c7], _ =>
    have sm : ∀ i, i < 8 → ∃ y, xs[i]? = some y := fun i h => ⟨_, List.getElem?_eq_getElem (by rw [hx]; exact h)⟩
    obtain ⟨y0, e0⟩ := sm 0 (by omega)
    have h0 : DataW.trod encH Try.prog W base sp held k 9 (([c0, c1, c2, c3, c4, c5, c6, c7].drop 0).take (Try.prog.cellsOf 9)) = xs[0]? := hf 0 _ rfl
    rw [e0, show Try.prog.cellsOf 9 = 1 from by kernel_rfl] at h0
    obtain ⟨fName, g0⟩ := open_string_cell (by kernel_rfl) h0
    obtain ⟨y1, e1⟩ := sm 1 (by omega)
    have h1 : DataW.trod encH Try.prog W base sp held k 9 (([c0, c1, c2, c3, c4, c5, c6, c7].drop 1).take (Try.prog.cellsOf 9)) = xs[1]? := hf 1 _ rfl
    rw [e1, show Try.prog.cellsOf 9 = 1 from by kernel_rfl] at h1
    obtain ⟨fBy, g1⟩ := open_string_cell (by kernel_rfl) h1
    obtain ⟨y2, e2⟩ := sm 2 (by omega)
    have h2 : DataW.trod encH Try.prog W base sp held k 22 (([c0, c1, c2, c3, c4, c5, c6, c7].drop 2).take (Try.prog.cellsOf 22)) = xs[2]? := hf 2 _ rfl
    rw [e2, show Try.prog.cellsOf 22 = 1 from by kernel_rfl] at h2
    obtain ⟨vNodes, fNodes, g2, wNodes⟩ := trod_nodes h2
    obtain ⟨y3, e3⟩ := sm 3 (by omega)
    have h3 : DataW.trod encH Try.prog W base sp held k 3 (([c0, c1, c2, c3, c4, c5, c6, c7].drop 3).take (Try.prog.cellsOf 3)) = xs[3]? := hf 3 _ rfl
    rw [e3, show Try.prog.cellsOf 3 = 1 from by kernel_rfl] at h3
    obtain ⟨fFor, g3, wFor⟩ := open_int_cell (k := .i64) (by kernel_rfl) h3
    obtain ⟨y4, e4⟩ := sm 4 (by omega)
    have h4 : DataW.trod encH Try.prog W base sp held k 3 (([c0, c1, c2, c3, c4, c5, c6, c7].drop 4).take (Try.prog.cellsOf 3)) = xs[4]? := hf 4 _ rfl
    rw [e4, show Try.prog.cellsOf 3 = 1 from by kernel_rfl] at h4
    obtain ⟨fEvery, g4, wEvery⟩ := open_int_cell (k := .i64) (by kernel_rfl) h4
    obtain ⟨y5, e5⟩ := sm 5 (by omega)
    have h5 : DataW.trod encH Try.prog W base sp held k 3 (([c0, c1, c2, c3, c4, c5, c6, c7].drop 5).take (Try.prog.cellsOf 3)) = xs[5]? := hf 5 _ rfl
    rw [e5, show Try.prog.cellsOf 3 = 1 from by kernel_rfl] at h5
    obtain ⟨fRepeat, g5, wRepeat⟩ := open_int_cell (k := .i64) (by kernel_rfl) h5
    obtain ⟨y6, e6⟩ := sm 6 (by omega)
    have h6 : DataW.trod encH Try.prog W base sp held k 23 (([c0, c1, c2, c3, c4, c5, c6, c7].drop 6).take (Try.prog.cellsOf 23)) = xs[6]? := hf 6 _ rfl
    rw [e6, show Try.prog.cellsOf 23 = 1 from by kernel_rfl] at h6
    obtain ⟨vMutes, fMutes, g6, wMutes⟩ := trod_ks h6
    obtain ⟨y7, e7⟩ := sm 7 (by omega)
    have h7 : DataW.trod encH Try.prog W base sp held k 9 (([c0, c1, c2, c3, c4, c5, c6, c7].drop 7).take (Try.prog.cellsOf 9)) = xs[7]? := hf 7 _ rfl
    rw [e7, show Try.prog.cellsOf 9 = 1 from by kernel_rfl] at h7
    obtain ⟨fRoute, g7⟩ := open_string_cell (by kernel_rfl) h7
    try simp at g0 g1 g2 g3 g4 g5 g6 g7
    refine ⟨⟨fName, fBy, vNodes, fFor, fEvery, fRepeat, vMutes, fMutes, fRoute⟩, ?_, ?_⟩
    · simp [g0, g1, g2, g3, g4, g5, g6, g7]
    · exact ⟨wMutes.1, wNodes.1⟩
theorem open_rule {H : Type} {encH : TypeId × Value → H} {r : Reach} {b0 : Nat} {W : World} {base : Nat} {sp : Nat → Bool} {held : Bool} {v : Value} {d : DataW H} {p : List MemPlace} (hv : Value.okWide Try.prog W r b0 25 v) (h : DataW.Trod encH Try.prog W base sp held 25 v d p) : ∃ x : Rl, v = .agg ((rc x).toList).toArray ∧ Ro (fun _ => True) W x := by
  obtain ⟨cs, rfl, hsz⟩ := okWide_struct under_rule hv
  obtain ⟨fuel, hf⟩ := h
  obtain ⟨x, hx, ho⟩ := trod_rule hf
  refine ⟨x, ?_, ho⟩
  have : cs.toList = (rc x).toList := hx
  rw [← this, Array.toArray_toList]
abbrev flds_alert : Array Field := #[{ name := "Rule", type := 26, offset := 0, byteOffset := 0, embedded := false, pkgPath := "", tag := "" }, { name := "By", type := 9, offset := 1, byteOffset := 8, embedded := false, pkgPath := "", tag := "" }, { name := "State", type := 5, offset := 2, byteOffset := 24, embedded := false, pkgPath := "", tag := "" }, { name := "Since", type := 3, offset := 3, byteOffset := 32, embedded := false, pkgPath := "", tag := "" }, { name := "Told", type := 3, offset := 4, byteOffset := 40, embedded := false, pkgPath := "", tag := "" }]
theorem under_alert : Try.prog.underlying 39 = some (.struct flds_alert) := by kernel_rfl
theorem cells_alert : Try.prog.cellsOf 39 = 5 := by kernel_rfl
theorem trod_alert {H : Type} {encH : TypeId × Value → H} {W : World} {base : Nat} {sp : Nat → Bool} {held : Bool} {fuel : Nat} {cs : List Value} {y : DataW H × List MemPlace} (h : DataW.trod encH Try.prog W base sp held fuel 39 cs = some y) : ∃ x : Al, cs = encA x ∧ True := by
  obtain ⟨xs, k, _, _, hl, hx, hf⟩ := DataW.trod_struct under_alert h
  rw [cells_alert] at hl
  match cs, hl with
  | [c0, c1, c2, c3, c4], _ =>
    have sm : ∀ i, i < 5 → ∃ y, xs[i]? = some y := fun i h => ⟨_, List.getElem?_eq_getElem (by rw [hx]; exact h)⟩
    obtain ⟨y0, e0⟩ := sm 0 (by omega)
    have h0 : DataW.trod encH Try.prog W base sp held k 26 (([c0, c1, c2, c3, c4].drop 0).take (Try.prog.cellsOf 26)) = xs[0]? := hf 0 _ rfl
    rw [e0, show Try.prog.cellsOf 26 = 1 from by kernel_rfl] at h0
    obtain ⟨fRule, g0, wRule⟩ := open_int_cell (k := .u32) (by kernel_rfl) h0
    obtain ⟨y1, e1⟩ := sm 1 (by omega)
    have h1 : DataW.trod encH Try.prog W base sp held k 9 (([c0, c1, c2, c3, c4].drop 1).take (Try.prog.cellsOf 9)) = xs[1]? := hf 1 _ rfl
    rw [e1, show Try.prog.cellsOf 9 = 1 from by kernel_rfl] at h1
    obtain ⟨fBy, g1⟩ := open_string_cell (by kernel_rfl) h1
    obtain ⟨y2, e2⟩ := sm 2 (by omega)
    have h2 : DataW.trod encH Try.prog W base sp held k 5 (([c0, c1, c2, c3, c4].drop 2).take (Try.prog.cellsOf 5)) = xs[2]? := hf 2 _ rfl
    rw [e2, show Try.prog.cellsOf 5 = 1 from by kernel_rfl] at h2
    obtain ⟨fState, g2, wState⟩ := open_int_cell (k := .u8) (by kernel_rfl) h2
    obtain ⟨y3, e3⟩ := sm 3 (by omega)
    have h3 : DataW.trod encH Try.prog W base sp held k 3 (([c0, c1, c2, c3, c4].drop 3).take (Try.prog.cellsOf 3)) = xs[3]? := hf 3 _ rfl
    rw [e3, show Try.prog.cellsOf 3 = 1 from by kernel_rfl] at h3
    obtain ⟨fSince, g3, wSince⟩ := open_int_cell (k := .i64) (by kernel_rfl) h3
    obtain ⟨y4, e4⟩ := sm 4 (by omega)
    have h4 : DataW.trod encH Try.prog W base sp held k 3 (([c0, c1, c2, c3, c4].drop 4).take (Try.prog.cellsOf 3)) = xs[4]? := hf 4 _ rfl
    rw [e4, show Try.prog.cellsOf 3 = 1 from by kernel_rfl] at h4
    obtain ⟨fTold, g4, wTold⟩ := open_int_cell (k := .i64) (by kernel_rfl) h4
    try simp at g0 g1 g2 g3 g4
    refine ⟨⟨fRule, fBy, fState, fSince, fTold⟩, ?_, ?_⟩
    · simp [g0, g1, g2, g3, g4]
    · exact trivial
theorem trod_alerts {H : Type} {encH : TypeId × Value → H} {W : World} {base : Nat} {sp : Nat → Bool} {held : Bool} {fuel : Nat} {cs : List Value} {y : DataW H × List MemPlace} (h : DataW.trod encH Try.prog W base sp held fuel 27 cs = some y) : ∃ v xs, cs = [v] ∧ Sl (fun _ => True) W v 5 encA xs ∧ ∀ x ∈ xs, True :=
  open_rows (by kernel_rfl) cells_alert (by decide) encA (fun _ => rfl) (fun h => trod_alert h) h
theorem open_alerts {H : Type} {encH : TypeId × Value → H} {r : Reach} {b0 : Nat} {W : World} {base : Nat} {sp : Nat → Bool} {held : Bool} {v : Value} {d : DataW H} {p : List MemPlace} (hv : Value.okWide Try.prog W r b0 27 v) (h : DataW.Trod encH Try.prog W base sp held 27 v d p) : ∃ xs, Sl (fun _ => True) W v 5 encA xs ∧ ∀ x ∈ xs, True := by
  obtain ⟨fuel, hf⟩ := h
  obtain ⟨a0, len0, cap0, rfl⟩ := okWide_slice (e := 39) (by kernel_rfl) hv
  obtain ⟨v, xs, h1, h2⟩ := trod_alerts hf
  have : v = .slice a0 len0 cap0 := by simpa [Value.cells] using h1.symm
  subst this
  exact ⟨xs, h2⟩
theorem open_ks {H : Type} {encH : TypeId × Value → H} {r : Reach} {b0 : Nat} {W : World} {base : Nat} {sp : Nat → Bool} {held : Bool} {v : Value} {d : DataW H} {p : List MemPlace} (hv : Value.okWide Try.prog W r b0 23 v) (h : DataW.Trod encH Try.prog W base sp held 23 v d p) : ∃ xs, Sl (fun _ => True) W v 1 encS xs ∧ ∀ x ∈ xs, True := by
  obtain ⟨fuel, hf⟩ := h
  obtain ⟨a0, len0, cap0, rfl⟩ := okWide_slice (e := 9) (by kernel_rfl) hv
  obtain ⟨v, xs, h1, h2⟩ := trod_ks hf
  have : v = .slice a0 len0 cap0 := by simpa [Value.cells] using h1.symm
  subst this
  exact ⟨xs, h2⟩
theorem open_mutes {H : Type} {encH : TypeId × Value → H} {r : Reach} {b0 : Nat} {W : World} {base : Nat} {sp : Nat → Bool} {held : Bool} {v : Value} {d : DataW H} {p : List MemPlace} (hv : Value.okWide Try.prog W r b0 41 v) (h : DataW.Trod encH Try.prog W base sp held 41 v d p) : ∃ xs, Sl (fun _ => True) W v 10 encU xs ∧ ∀ x ∈ xs, True := by
  obtain ⟨fuel, hf⟩ := h
  obtain ⟨a0, len0, cap0, rfl⟩ := okWide_slice (e := 46) (by kernel_rfl) hv
  obtain ⟨v, xs, h1, h2⟩ := trod_mutes hf
  have : v = .slice a0 len0 cap0 := by simpa [Value.cells] using h1.symm
  subst this
  exact ⟨xs, h2⟩
end Go.Proofs.Ytajflljemfgkiaa

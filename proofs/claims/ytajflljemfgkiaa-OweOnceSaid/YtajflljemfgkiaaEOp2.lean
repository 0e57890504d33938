/- A rule handed in, its nodes seen as a slice. (Printed by tools/genopen.py.) -/
import Derived.Test.YtajflljemfgkiaaEOpn
namespace Go.Proofs.Ytajflljemfgkiaa
open Go.ChangeShapes Go.WideShapes Go.ChangeAt Go.RowKit Mut
theorem trod_nodes2 {H : Type} {encH : TypeId × Value → H} {W : World} {base : Nat} {sp : Nat → Bool} {held : Bool} {fuel : Nat} {cs : List Value} {y : DataW H × List MemPlace} (h : DataW.trod encH Try.prog W base sp held fuel 22 cs = some y) : ∃ (v : Value) (_ : Unit), cs = [v] ∧ (∃ a n c, v = .slice a n c) ∧ True := by
  rcases Go.Deep.open_slice (e := 99) (by kernel_rfl) h with ⟨hc, _⟩ | ⟨a, len, cap, m, n, D, Pl, hcs, _⟩
  · exact ⟨_, (), hc, ⟨_, _, _, rfl⟩, trivial⟩
  · exact ⟨_, (), hcs, ⟨_, _, _, rfl⟩, trivial⟩
abbrev flds_rule2 : Array Field := #[{ name := "Name", type := 9, offset := 0, byteOffset := 0, embedded := false, pkgPath := "", tag := "" }, { name := "By", type := 9, offset := 1, byteOffset := 16, embedded := false, pkgPath := "", tag := "" }, { name := "Nodes", type := 22, offset := 2, byteOffset := 32, embedded := false, pkgPath := "", tag := "" }, { name := "For", type := 3, offset := 3, byteOffset := 56, embedded := false, pkgPath := "", tag := "" }, { name := "Every", type := 3, offset := 4, byteOffset := 64, embedded := false, pkgPath := "", tag := "" }, { name := "Repeat", type := 3, offset := 5, byteOffset := 72, embedded := false, pkgPath := "", tag := "" }, { name := "Mutes", type := 23, offset := 6, byteOffset := 80, embedded := false, pkgPath := "", tag := "" }, { name := "Route", type := 9, offset := 7, byteOffset := 104, embedded := false, pkgPath := "", tag := "" }]
theorem under_rule2 : Try.prog.underlying 25 = some (.struct flds_rule2) := by kernel_rfl
theorem cells_rule2 : Try.prog.cellsOf 25 = 8 := by kernel_rfl
theorem trod_rule2 {H : Type} {encH : TypeId × Value → H} {W : World} {base : Nat} {sp : Nat → Bool} {held : Bool} {fuel : Nat} {cs : List Value} {y : DataW H × List MemPlace} (h : DataW.trod encH Try.prog W base sp held fuel 25 cs = some y) : ∃ x : Rl, cs = (rc x).toList ∧ Ro (fun _ => True) W x ∧ ∃ a n c, x.nodes = .slice a n c := by
  obtain ⟨xs, k, _, _, hl, hx, hf⟩ := DataW.trod_struct under_rule2 h
  rw [cells_rule2] at hl
  match cs, hl with
  | [c0, c1, c2, c3, c4, c5, c6, c7], _ =>
    have sm : ∀ i, i < 8 → ∃ y, xs[i]? = some y := fun i h => ⟨_, List.getElem?_eq_getElem (by rw [hx]; exact h)⟩
    obtain ⟨y0, e0⟩ := sm 0 (by omega)
    have h0 : DataW.trod encH Try.prog W base sp held k 9 (([c0, c1, c2, c3, c4, c5, c6, c7].drop 0).take (Try.prog.cellsOf 9)) = xs[0]? := hf 0 _ rfl
    rw [e0, show Try.prog.cellsOf 9 = 1 from by kernel_rfl] at h0
    obtain ⟨fName, g0⟩ := open_string_cell (by kernel_rfl) h0
    obtain ⟨y1, e1⟩ := sm 1 (by omega)
    have h1 : DataW.trod encH Try.prog W base sp held k 9 (([c0, c1, c2, c3, c4, c5, c6, c7].drop 1).take (Try.prog.cellsOf 9)) = xs[1]? := hf 1 _ rfl
    rw [e1, show Try.prog.cellsOf 9 = 1 from by kernel_rfl] at h1
    obtain ⟨fBy, g1⟩ := open_string_cell (by kernel_rfl) h1
    obtain ⟨y2, e2⟩ := sm 2 (by omega)
    have h2 : DataW.trod encH Try.prog W base sp held k 22 (([c0, c1, c2, c3, c4, c5, c6, c7].drop 2).take (Try.prog.cellsOf 22)) = xs[2]? := hf 2 _ rfl
    rw [e2, show Try.prog.cellsOf 22 = 1 from by kernel_rfl] at h2
    obtain ⟨vNodes, fNodes, g2, wNodes⟩ := trod_nodes2 h2
    obtain ⟨y3, e3⟩ := sm 3 (by omega)
    have h3 : DataW.trod encH Try.prog W base sp held k 3 (([c0, c1, c2, c3, c4, c5, c6, c7].drop 3).take (Try.prog.cellsOf 3)) = xs[3]? := hf 3 _ rfl
    rw [e3, show Try.prog.cellsOf 3 = 1 from by kernel_rfl] at h3
    obtain ⟨fFor, g3, wFor⟩ := open_int_cell (k := .i64) (by kernel_rfl) h3
    obtain ⟨y4, e4⟩ := sm 4 (by omega)
    have h4 : DataW.trod encH Try.prog W base sp held k 3 (([c0, c1, c2, c3, c4, c5, c6, c7].drop 4).take (Try.prog.cellsOf 3)) = xs[4]? := hf 4 _ rfl
    rw [e4, show Try.prog.cellsOf 3 = 1 from by kernel_rfl] at h4
    obtain ⟨fEvery, g4, wEvery⟩ := open_int_cell (k := .i64) (by kernel_rfl) h4
    obtain ⟨y5, e5⟩ := sm 5 (by omega)
    have h5 : DataW.trod encH Try.prog W base sp held k 3 (([c0, c1, c2, c3, c4, c5, c6, c7].drop 5).take (Try.prog.cellsOf 3)) = xs[5]? := hf 5 _ rfl
    rw [e5, show Try.prog.cellsOf 3 = 1 from by kernel_rfl] at h5
    obtain ⟨fRepeat, g5, wRepeat⟩ := open_int_cell (k := .i64) (by kernel_rfl) h5
    obtain ⟨y6, e6⟩ := sm 6 (by omega)
    have h6 : DataW.trod encH Try.prog W base sp held k 23 (([c0, c1, c2, c3, c4, c5, c6, c7].drop 6).take (Try.prog.cellsOf 23)) = xs[6]? := hf 6 _ rfl
    rw [e6, show Try.prog.cellsOf 23 = 1 from by kernel_rfl] at h6
    obtain ⟨vMutes, fMutes, g6, wMutes⟩ := trod_ks h6
    obtain ⟨y7, e7⟩ := sm 7 (by omega)
    have h7 : DataW.trod encH Try.prog W base sp held k 9 (([c0, c1, c2, c3, c4, c5, c6, c7].drop 7).take (Try.prog.cellsOf 9)) = xs[7]? := hf 7 _ rfl
    rw [e7, show Try.prog.cellsOf 9 = 1 from by kernel_rfl] at h7
    obtain ⟨fRoute, g7⟩ := open_string_cell (by kernel_rfl) h7
    try simp at g0 g1 g2 g3 g4 g5 g6 g7
    refine ⟨⟨fName, fBy, vNodes, fFor, fEvery, fRepeat, vMutes, fMutes, fRoute⟩, ?_, ?_⟩
    · simp [g0, g1, g2, g3, g4, g5, g6, g7]
    · exact ⟨⟨wMutes.1, by obtain ⟨_, _, _, rfl⟩ := wNodes.1; rfl⟩, wNodes.1⟩
theorem open_rule2 {H : Type} {encH : TypeId × Value → H} {r : Reach} {b0 : Nat} {W : World} {base : Nat} {sp : Nat → Bool} {held : Bool} {v : Value} {d : DataW H} {p : List MemPlace} (hv : Value.okWide Try.prog W r b0 25 v) (h : DataW.Trod encH Try.prog W base sp held 25 v d p) : ∃ x : Rl, v = .agg ((rc x).toList).toArray ∧ Ro (fun _ => True) W x ∧ ∃ a n c, x.nodes = .slice a n c := by
  obtain ⟨cs, rfl, hsz⟩ := okWide_struct under_rule2 hv
  obtain ⟨fuel, hf⟩ := h
  obtain ⟨x, hx, ho⟩ := trod_rule2 hf
  refine ⟨x, ?_, ho⟩
  have : cs.toList = (rc x).toList := hx
  rw [← this, Array.toArray_toList]
end Go.Proofs.Ytajflljemfgkiaa

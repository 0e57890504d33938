/- The arguments of the queue's and drr's laws, opened. (Printed by tools/genopen.py.) -/
import Derived.Test.YthligipgmicgfaaQOpn
import Derived.Test.YthligipgmicgfaaQSpl
namespace Go.Proofs.Ythligipgmicgfaa
open Go.ChangeShapes Go.WideShapes Go.ChangeAt Go.RowKit
/-- an item as it came in -/
def LabO (W : World) (r : Value × It) : Prop := Sl (fun _ => True) W r.1 2 encL r.2.ls ∧ (Lit.int .i64 r.2.at_).wf = true ∧ (Lit.int .i64 r.2.vl).wf = true ∧ (Lit.int .i64 r.2.cost).wf = true
abbrev encD (x : Bool × Int × (Value × It)) : List Value := [.bool x.1, .int .i64 x.2.1, x.2.2.1, .int .i64 x.2.2.2.at_, .int .i64 x.2.2.2.vl, .int .i64 x.2.2.2.cost]
abbrev flds_label : Array Field := #[{ name := "Name", type := 9, offset := 0, byteOffset := 0, embedded := false, pkgPath := "", tag := "" }, { name := "Value", type := 9, offset := 1, byteOffset := 16, embedded := false, pkgPath := "", tag := "" }]
theorem under_label : Try.prog.underlying 79 = some (.struct flds_label) := by kernel_rfl
theorem cells_label : Try.prog.cellsOf 79 = 2 := by kernel_rfl
theorem trod_label {H : Type} {encH : TypeId × Value → H} {W : World} {base : Nat} {sp : Nat → Bool} {held : Bool} {fuel : Nat} {cs : List Value} {y : DataW H × List MemPlace} (h : DataW.trod encH Try.prog W base sp held fuel 79 cs = some y) : ∃ x : Lbl, cs = encL x ∧ True := by
  obtain ⟨xs, k, _, _, hl, hx, hf⟩ := DataW.trod_struct under_label h
  rw [cells_label] at hl
  match cs, hl with
  | [c0, c1], _ =>
    have sm : ∀ i, i < 2 → ∃ y, xs[i]? = some y := fun i h => ⟨_, List.getElem?_eq_getElem (by rw [hx]; exact h)⟩
    obtain ⟨y0, e0⟩ := sm 0 (by omega)
    have h0 : DataW.trod encH Try.prog W base sp held k 9 (([c0, c1].drop 0).take (Try.prog.cellsOf 9)) = xs[0]? := hf 0 _ rfl
    rw [e0, show Try.prog.cellsOf 9 = 1 from by kernel_rfl] at h0
    obtain ⟨fName, g0⟩ := open_string_cell (by kernel_rfl) h0
    obtain ⟨y1, e1⟩ := sm 1 (by omega)
    have h1 : DataW.trod encH Try.prog W base sp held k 9 (([c0, c1].drop 1).take (Try.prog.cellsOf 9)) = xs[1]? := hf 1 _ rfl
    rw [e1, show Try.prog.cellsOf 9 = 1 from by kernel_rfl] at h1
    obtain ⟨fValue, g1⟩ := open_string_cell (by kernel_rfl) h1
    try simp at g0 g1
    refine ⟨⟨fName, fValue⟩, ?_, ?_⟩
    · simp [g0, g1]
    · exact trivial
theorem trod_labels {H : Type} {encH : TypeId × Value → H} {W : World} {base : Nat} {sp : Nat → Bool} {held : Bool} {fuel : Nat} {cs : List Value} {y : DataW H × List MemPlace} (h : DataW.trod encH Try.prog W base sp held fuel 28 cs = some y) : ∃ v xs, cs = [v] ∧ Sl (fun _ => True) W v 2 encL xs ∧ ∀ x ∈ xs, True :=
  open_rows (by kernel_rfl) cells_label (by decide) encL (fun _ => rfl) (fun h => trod_label h) h
abbrev flds_sample : Array Field := #[{ name := "At", type := 3, offset := 0, byteOffset := 0, embedded := false, pkgPath := "", tag := "" }, { name := "Value", type := 2, offset := 1, byteOffset := 8, embedded := false, pkgPath := "", tag := "" }]
theorem under_sample : Try.prog.underlying 30 = some (.struct flds_sample) := by kernel_rfl
theorem cells_sample : Try.prog.cellsOf 30 = 2 := by kernel_rfl
theorem trod_sample {H : Type} {encH : TypeId × Value → H} {W : World} {base : Nat} {sp : Nat → Bool} {held : Bool} {fuel : Nat} {cs : List Value} {y : DataW H × List MemPlace} (h : DataW.trod encH Try.prog W base sp held fuel 30 cs = some y) : ∃ x : Int × Int, cs = [.int .i64 x.1, .int .i64 x.2] ∧ (Lit.int .i64 x.1).wf = true ∧ (Lit.int .i64 x.2).wf = true := by
  obtain ⟨xs, k, _, _, hl, hx, hf⟩ := DataW.trod_struct under_sample h
  rw [cells_sample] at hl
  match cs, hl with
  | [c0, c1], _ =>
    have sm : ∀ i, i < 2 → ∃ y, xs[i]? = some y := fun i h => ⟨_, List.getElem?_eq_getElem (by rw [hx]; exact h)⟩
    obtain ⟨y0, e0⟩ := sm 0 (by omega)
    have h0 : DataW.trod encH Try.prog W base sp held k 3 (([c0, c1].drop 0).take (Try.prog.cellsOf 3)) = xs[0]? := hf 0 _ rfl
    rw [e0, show Try.prog.cellsOf 3 = 1 from by kernel_rfl] at h0
    obtain ⟨fAt, g0, wAt⟩ := open_int_cell (k := .i64) (by kernel_rfl) h0
    obtain ⟨y1, e1⟩ := sm 1 (by omega)
    have h1 : DataW.trod encH Try.prog W base sp held k 2 (([c0, c1].drop 1).take (Try.prog.cellsOf 2)) = xs[1]? := hf 1 _ rfl
    rw [e1, show Try.prog.cellsOf 2 = 1 from by kernel_rfl] at h1
    obtain ⟨fValue, g1, wValue⟩ := open_int_cell (k := .i64) (by kernel_rfl) h1
    try simp at g0 g1
    refine ⟨(fAt, fValue), ?_, ?_⟩
    · simp [g0, g1]
    · exact ⟨wAt, wValue⟩
abbrev flds_item : Array Field := #[{ name := "Labels", type := 28, offset := 0, byteOffset := 0, embedded := false, pkgPath := "", tag := "" }, { name := "Sample", type := 30, offset := 1, byteOffset := 24, embedded := false, pkgPath := "", tag := "" }, { name := "Cost", type := 3, offset := 3, byteOffset := 40, embedded := false, pkgPath := "", tag := "" }]
theorem under_item : Try.prog.underlying 32 = some (.struct flds_item) := by kernel_rfl
theorem cells_item : Try.prog.cellsOf 32 = 4 := by kernel_rfl
theorem trod_item {H : Type} {encH : TypeId × Value → H} {W : World} {base : Nat} {sp : Nat → Bool} {held : Bool} {fuel : Nat} {cs : List Value} {y : DataW H × List MemPlace} (h : DataW.trod encH Try.prog W base sp held fuel 32 cs = some y) : ∃ x : Value × It, cs = encI x ∧ LabO W x := by
  obtain ⟨xs, k, _, _, hl, hx, hf⟩ := DataW.trod_struct under_item h
  rw [cells_item] at hl
  match cs, hl with
  | [c0, c1, c2, c3], _ =>
    have sm : ∀ i, i < 3 → ∃ y, xs[i]? = some y := fun i h => ⟨_, List.getElem?_eq_getElem (by rw [hx]; exact h)⟩
    obtain ⟨y0, e0⟩ := sm 0 (by omega)
    have h0 : DataW.trod encH Try.prog W base sp held k 28 (([c0, c1, c2, c3].drop 0).take (Try.prog.cellsOf 28)) = xs[0]? := hf 0 _ rfl
    rw [e0, show Try.prog.cellsOf 28 = 1 from by kernel_rfl] at h0
    obtain ⟨vLabels, fLabels, g0, wLabels⟩ := trod_labels h0
    obtain ⟨y1, e1⟩ := sm 1 (by omega)
    have h1 : DataW.trod encH Try.prog W base sp held k 30 (([c0, c1, c2, c3].drop 1).take (Try.prog.cellsOf 30)) = xs[1]? := hf 1 _ rfl
    rw [e1, show Try.prog.cellsOf 30 = 2 from by kernel_rfl] at h1
    obtain ⟨fSample, g1, wSample⟩ := trod_sample h1
    obtain ⟨y2, e2⟩ := sm 2 (by omega)
    have h2 : DataW.trod encH Try.prog W base sp held k 3 (([c0, c1, c2, c3].drop 3).take (Try.prog.cellsOf 3)) = xs[2]? := hf 2 _ rfl
    rw [e2, show Try.prog.cellsOf 3 = 1 from by kernel_rfl] at h2
    obtain ⟨fCost, g2, wCost⟩ := open_int_cell (k := .i64) (by kernel_rfl) h2
    try simp at g0 g1 g2
    refine ⟨(vLabels, ⟨fLabels, fSample.1, fSample.2, fCost⟩), ?_, ?_⟩
    · simp [g0, g1, g2]
    · exact ⟨wLabels.1, wSample.1, wSample.2, wCost⟩
theorem trod_items {H : Type} {encH : TypeId × Value → H} {W : World} {base : Nat} {sp : Nat → Bool} {held : Bool} {fuel : Nat} {cs : List Value} {y : DataW H × List MemPlace} (h : DataW.trod encH Try.prog W base sp held fuel 36 cs = some y) : ∃ v xs, cs = [v] ∧ Sl (fun _ => True) W v 4 encI xs ∧ ∀ x ∈ xs, LabO W x :=
  open_rows (by kernel_rfl) cells_item (by decide) encI (fun _ => rfl) (fun h => trod_item h) h
theorem open_item {H : Type} {encH : TypeId × Value → H} {r : Reach} {b0 : Nat} {W : World} {base : Nat} {sp : Nat → Bool} {held : Bool} {v : Value} {d : DataW H} {p : List MemPlace} (hv : Value.okWide Try.prog W r b0 32 v) (h : DataW.Trod encH Try.prog W base sp held 32 v d p) : ∃ x : Value × It, v = .agg (encI x).toArray ∧ LabO W x := by
  obtain ⟨cs, rfl, hsz⟩ := okWide_struct under_item hv
  obtain ⟨fuel, hf⟩ := h
  obtain ⟨x, hx, ho⟩ := trod_item hf
  refine ⟨x, ?_, ho⟩
  have : cs.toList = encI x := hx
  rw [← this, Array.toArray_toList]
abbrev flds_act20 : Array Field := #[{ name := "Pop", type := 4, offset := 0, byteOffset := 0, embedded := false, pkgPath := "", tag := "" }, { name := "X", type := 32, offset := 1, byteOffset := 8, embedded := false, pkgPath := "", tag := "" }]
theorem under_act20 : Try.prog.underlying 43 = some (.struct flds_act20) := by kernel_rfl
theorem cells_act20 : Try.prog.cellsOf 43 = 5 := by kernel_rfl
theorem trod_act20 {H : Type} {encH : TypeId × Value → H} {W : World} {base : Nat} {sp : Nat → Bool} {held : Bool} {fuel : Nat} {cs : List Value} {y : DataW H × List MemPlace} (h : DataW.trod encH Try.prog W base sp held fuel 43 cs = some y) : ∃ x : Bool × (Value × It), cs = encA x ∧ LabO W x.2 := by
  obtain ⟨xs, k, _, _, hl, hx, hf⟩ := DataW.trod_struct under_act20 h
  rw [cells_act20] at hl
  match cs, hl with
  | [c0, c1, c2, c3, c4], _ =>
    have sm : ∀ i, i < 2 → ∃ y, xs[i]? = some y := fun i h => ⟨_, List.getElem?_eq_getElem (by rw [hx]; exact h)⟩
    obtain ⟨y0, e0⟩ := sm 0 (by omega)
    have h0 : DataW.trod encH Try.prog W base sp held k 4 (([c0, c1, c2, c3, c4].drop 0).take (Try.prog.cellsOf 4)) = xs[0]? := hf 0 _ rfl
    rw [e0, show Try.prog.cellsOf 4 = 1 from by kernel_rfl] at h0
    obtain ⟨fPop, g0⟩ := open_bool_cell (by kernel_rfl) h0
    obtain ⟨y1, e1⟩ := sm 1 (by omega)
    have h1 : DataW.trod encH Try.prog W base sp held k 32 (([c0, c1, c2, c3, c4].drop 1).take (Try.prog.cellsOf 32)) = xs[1]? := hf 1 _ rfl
    rw [e1, show Try.prog.cellsOf 32 = 4 from by kernel_rfl] at h1
    obtain ⟨fX, g1, wX⟩ := trod_item h1
    try simp at g0 g1
    refine ⟨(fPop, fX), ?_, ?_⟩
    · simp [g0, g1]
    · exact wX
theorem trod_acts20 {H : Type} {encH : TypeId × Value → H} {W : World} {base : Nat} {sp : Nat → Bool} {held : Bool} {fuel : Nat} {cs : List Value} {y : DataW H × List MemPlace} (h : DataW.trod encH Try.prog W base sp held fuel 39 cs = some y) : ∃ v xs, cs = [v] ∧ Sl (fun _ => True) W v 5 encA xs ∧ ∀ x ∈ xs, LabO W x.2 :=
  open_rows (by kernel_rfl) cells_act20 (by decide) encA (fun _ => rfl) (fun h => trod_act20 h) h
abbrev flds_act21 : Array Field := #[{ name := "Serve", type := 4, offset := 0, byteOffset := 0, embedded := false, pkgPath := "", tag := "" }, { name := "Odd", type := 3, offset := 1, byteOffset := 8, embedded := false, pkgPath := "", tag := "" }, { name := "X", type := 32, offset := 2, byteOffset := 16, embedded := false, pkgPath := "", tag := "" }]
theorem under_act21 : Try.prog.underlying 64 = some (.struct flds_act21) := by kernel_rfl
theorem cells_act21 : Try.prog.cellsOf 64 = 6 := by kernel_rfl
theorem trod_act21 {H : Type} {encH : TypeId × Value → H} {W : World} {base : Nat} {sp : Nat → Bool} {held : Bool} {fuel : Nat} {cs : List Value} {y : DataW H × List MemPlace} (h : DataW.trod encH Try.prog W base sp held fuel 64 cs = some y) : ∃ x : Bool × Int × (Value × It), cs = encD x ∧ (Lit.int .i64 x.2.1).wf = true ∧ LabO W x.2.2 := by
  obtain ⟨xs, k, _, _, hl, hx, hf⟩ := DataW.trod_struct under_act21 h
  rw [cells_act21] at hl
  match cs, hl with
  | [c0, c1, c2, c3, c4, c5], _ =>
    have sm : ∀ i, i < 3 → ∃ y, xs[i]? = some y := fun i h => ⟨_, List.getElem?_eq_getElem (by rw [hx]; exact h)⟩
    obtain ⟨y0, e0⟩ := sm 0 (by omega)
    have h0 : DataW.trod encH Try.prog W base sp held k 4 (([c0, c1, c2, c3, c4, c5].drop 0).take (Try.prog.cellsOf 4)) = xs[0]? := hf 0 _ rfl
    rw [e0, show Try.prog.cellsOf 4 = 1 from by kernel_rfl] at h0
    obtain ⟨fServe, g0⟩ := open_bool_cell (by kernel_rfl) h0
    obtain ⟨y1, e1⟩ := sm 1 (by omega)
    have h1 : DataW.trod encH Try.prog W base sp held k 3 (([c0, c1, c2, c3, c4, c5].drop 1).take (Try.prog.cellsOf 3)) = xs[1]? := hf 1 _ rfl
    rw [e1, show Try.prog.cellsOf 3 = 1 from by kernel_rfl] at h1
    obtain ⟨fOdd, g1, wOdd⟩ := open_int_cell (k := .i64) (by kernel_rfl) h1
    obtain ⟨y2, e2⟩ := sm 2 (by omega)
    have h2 : DataW.trod encH Try.prog W base sp held k 32 (([c0, c1, c2, c3, c4, c5].drop 2).take (Try.prog.cellsOf 32)) = xs[2]? := hf 2 _ rfl
    rw [e2, show Try.prog.cellsOf 32 = 4 from by kernel_rfl] at h2
    obtain ⟨fX, g2, wX⟩ := trod_item h2
    try simp at g0 g1 g2
    refine ⟨(fServe, fOdd, fX), ?_, ?_⟩
    · simp [g0, g1, g2]
    · exact ⟨wOdd, wX⟩
theorem trod_acts21 {H : Type} {encH : TypeId × Value → H} {W : World} {base : Nat} {sp : Nat → Bool} {held : Bool} {fuel : Nat} {cs : List Value} {y : DataW H × List MemPlace} (h : DataW.trod encH Try.prog W base sp held fuel 61 cs = some y) : ∃ v xs, cs = [v] ∧ Sl (fun _ => True) W v 6 encD xs ∧ ∀ x ∈ xs, (Lit.int .i64 x.2.1).wf = true ∧ LabO W x.2.2 :=
  open_rows (by kernel_rfl) cells_act21 (by decide) encD (fun _ => rfl) (fun h => trod_act21 h) h
theorem open_items {H : Type} {encH : TypeId × Value → H} {r : Reach} {b0 : Nat} {W : World} {base : Nat} {sp : Nat → Bool} {held : Bool} {v : Value} {d : DataW H} {p : List MemPlace} (hv : Value.okWide Try.prog W r b0 36 v) (h : DataW.Trod encH Try.prog W base sp held 36 v d p) : ∃ xs, Sl (fun _ => True) W v 4 encI xs ∧ ∀ x ∈ xs, LabO W x := by
  obtain ⟨fuel, hf⟩ := h
  obtain ⟨a0, len0, cap0, rfl⟩ := okWide_slice (e := 32) (by kernel_rfl) hv
  obtain ⟨v, xs, h1, h2⟩ := trod_items hf
  have : v = .slice a0 len0 cap0 := by simpa [Value.cells] using h1.symm
  subst this
  exact ⟨xs, h2⟩
theorem open_acts20 {H : Type} {encH : TypeId × Value → H} {r : Reach} {b0 : Nat} {W : World} {base : Nat} {sp : Nat → Bool} {held : Bool} {v : Value} {d : DataW H} {p : List MemPlace} (hv : Value.okWide Try.prog W r b0 39 v) (h : DataW.Trod encH Try.prog W base sp held 39 v d p) : ∃ xs, Sl (fun _ => True) W v 5 encA xs ∧ ∀ x ∈ xs, LabO W x.2 := by
  obtain ⟨fuel, hf⟩ := h
  obtain ⟨a0, len0, cap0, rfl⟩ := okWide_slice (e := 43) (by kernel_rfl) hv
  obtain ⟨v, xs, h1, h2⟩ := trod_acts20 hf
  have : v = .slice a0 len0 cap0 := by simpa [Value.cells] using h1.symm
  subst this
  exact ⟨xs, h2⟩
theorem open_acts21 {H : Type} {encH : TypeId × Value → H} {r : Reach} {b0 : Nat} {W : World} {base : Nat} {sp : Nat → Bool} {held : Bool} {v : Value} {d : DataW H} {p : List MemPlace} (hv : Value.okWide Try.prog W r b0 61 v) (h : DataW.Trod encH Try.prog W base sp held 61 v d p) : ∃ xs, Sl (fun _ => True) W v 6 encD xs ∧ ∀ x ∈ xs, (Lit.int .i64 x.2.1).wf = true ∧ LabO W x.2.2 := by
  obtain ⟨fuel, hf⟩ := h
  obtain ⟨a0, len0, cap0, rfl⟩ := okWide_slice (e := 64) (by kernel_rfl) hv
  obtain ⟨v, xs, h1, h2⟩ := trod_acts21 hf
  have : v = .slice a0 len0 cap0 := by simpa [Value.cells] using h1.symm
  subst this
  exact ⟨xs, h2⟩
end Go.Proofs.Ythligipgmicgfaa

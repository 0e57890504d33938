/- The arguments of the outbox's laws, opened. (Printed by tools/genopen.py.) -/
import Derived.Test.YtfaafndaelmbfaaQOpn
import Derived.Test.YtfaafndaelmbfaaOMid
namespace Go.Proofs.Ytfaafndaelmbfaa
open Go.ChangeShapes Go.WideShapes Go.ChangeAt Go.RowKit
theorem trod_ks {H : Type} {encH : TypeId × Value → H} {W : World} {base : Nat} {sp : Nat → Bool} {held : Bool} {fuel : Nat} {cs : List Value} {y : DataW H × List MemPlace} (h : DataW.trod encH Try.prog W base sp held fuel 28 cs = some y) : ∃ v xs, cs = [v] ∧ Sl (fun _ => True) W v 1 encS xs ∧ ∀ x ∈ xs, True :=
  open_rows (T := 28) (E := 9) (size := 1) (G := fun _ => True) (by kernel_rfl) (by kernel_rfl) (by decide) encS (fun _ => rfl) (fun {n cs y} h => by
    obtain ⟨z, hz, h2⟩ := DataW.trod_string (by kernel_rfl) h
    exact ⟨z, by simpa using hz, trivial⟩) h
theorem trod_ss {H : Type} {encH : TypeId × Value → H} {W : World} {base : Nat} {sp : Nat → Bool} {held : Bool} {fuel : Nat} {cs : List Value} {y : DataW H × List MemPlace} (h : DataW.trod encH Try.prog W base sp held fuel 29 cs = some y) : ∃ v xs, cs = [v] ∧ Sl (fun _ => True) W v 1 encJ xs ∧ ∀ x ∈ xs, (Lit.int .i64 x).wf = true :=
  open_rows (T := 29) (E := 3) (size := 1) (G := fun x => (Lit.int .i64 x).wf = true) (by kernel_rfl) (by kernel_rfl) (by decide) encJ (fun _ => rfl) (fun {n cs y} h => by
    obtain ⟨z, hz, h2⟩ := DataW.trod_int (k := .i64) (by kernel_rfl) h
    exact ⟨z, by simpa using hz, by simp_all⟩) h
/-- an act -/
abbrev encT (x : Int × Mr × Int) : List Value := [.int .u8 x.1, .int .u32 x.2.1.m.rule, .string x.2.1.m.route, .int .i64 x.2.1.m.at_, x.2.1.kv, x.2.1.sv, .int .i64 x.2.2]
abbrev flds_msg : Array Field := #[{ name := "Rule", type := 27, offset := 0, byteOffset := 0, embedded := false, pkgPath := "", tag := "" }, { name := "Route", type := 9, offset := 1, byteOffset := 8, embedded := false, pkgPath := "", tag := "" }, { name := "At", type := 3, offset := 2, byteOffset := 24, embedded := false, pkgPath := "", tag := "" }, { name := "Keys", type := 28, offset := 3, byteOffset := 32, embedded := false, pkgPath := "", tag := "" }, { name := "Since", type := 29, offset := 4, byteOffset := 56, embedded := false, pkgPath := "", tag := "" }]
theorem under_msg : Try.prog.underlying 31 = some (.struct flds_msg) := by kernel_rfl
theorem cells_msg : Try.prog.cellsOf 31 = 5 := by kernel_rfl
theorem trod_msg {H : Type} {encH : TypeId × Value → H} {W : World} {base : Nat} {sp : Nat → Bool} {held : Bool} {fuel : Nat} {cs : List Value} {y : DataW H × List MemPlace} (h : DataW.trod encH Try.prog W base sp held fuel 31 cs = some y) : ∃ x : Mr, cs = encM x ∧ Mo (fun _ => True) W x := by
  obtain ⟨xs, k, _, _, hl, hx, hf⟩ := DataW.trod_struct under_msg h
  rw [cells_msg] at hl
  match cs, hl with
  | [c0, c1, c2, c3, c4], _ =>
    have sm : ∀ i, i < 5 → ∃ y, xs[i]? = some y := fun i h => ⟨_, List.getElem?_eq_getElem (by rw [hx]; exact h)⟩
    obtain ⟨y0, e0⟩ := sm 0 (by omega)
    have h0 : DataW.trod encH Try.prog W base sp held k 27 (([c0, c1, c2, c3, c4].drop 0).take (Try.prog.cellsOf 27)) = xs[0]? := hf 0 _ rfl
    rw [e0, show Try.prog.cellsOf 27 = 1 from by kernel_rfl] at h0
    obtain ⟨fRule, g0, wRule⟩ := open_int_cell (k := .u32) (by kernel_rfl) h0
    obtain ⟨y1, e1⟩ := sm 1 (by omega)
    have h1 : DataW.trod encH Try.prog W base sp held k 9 (([c0, c1, c2, c3, c4].drop 1).take (Try.prog.cellsOf 9)) = xs[1]? := hf 1 _ rfl
    rw [e1, show Try.prog.cellsOf 9 = 1 from by kernel_rfl] at h1
    obtain ⟨fRoute, g1⟩ := open_string_cell (by kernel_rfl) h1
    obtain ⟨y2, e2⟩ := sm 2 (by omega)
    have h2 : DataW.trod encH Try.prog W base sp held k 3 (([c0, c1, c2, c3, c4].drop 2).take (Try.prog.cellsOf 3)) = xs[2]? := hf 2 _ rfl
    rw [e2, show Try.prog.cellsOf 3 = 1 from by kernel_rfl] at h2
    obtain ⟨fAt, g2, wAt⟩ := open_int_cell (k := .i64) (by kernel_rfl) h2
    obtain ⟨y3, e3⟩ := sm 3 (by omega)
    have h3 : DataW.trod encH Try.prog W base sp held k 28 (([c0, c1, c2, c3, c4].drop 3).take (Try.prog.cellsOf 28)) = xs[3]? := hf 3 _ rfl
    rw [e3, show Try.prog.cellsOf 28 = 1 from by kernel_rfl] at h3
    obtain ⟨vKeys, fKeys, g3, wKeys⟩ := trod_ks h3
    obtain ⟨y4, e4⟩ := sm 4 (by omega)
    have h4 : DataW.trod encH Try.prog W base sp held k 29 (([c0, c1, c2, c3, c4].drop 4).take (Try.prog.cellsOf 29)) = xs[4]? := hf 4 _ rfl
    rw [e4, show Try.prog.cellsOf 29 = 1 from by kernel_rfl] at h4
    obtain ⟨vSince, fSince, g4, wSince⟩ := trod_ss h4
    try simp at g0 g1 g2 g3 g4
    refine ⟨⟨vKeys, vSince, ⟨fRule, fRoute, fAt, fKeys, fSince⟩⟩, ?_, ?_⟩
    · simp [g0, g1, g2, g3, g4]
    · exact ⟨wKeys.1, wSince.1⟩
theorem open_msg {H : Type} {encH : TypeId × Value → H} {r : Reach} {b0 : Nat} {W : World} {base : Nat} {sp : Nat → Bool} {held : Bool} {v : Value} {d : DataW H} {p : List MemPlace} (hv : Value.okWide Try.prog W r b0 31 v) (h : DataW.Trod encH Try.prog W base sp held 31 v d p) : ∃ x : Mr, v = .agg (encM x).toArray ∧ Mo (fun _ => True) W x := by
  obtain ⟨cs, rfl, hsz⟩ := okWide_struct under_msg hv
  obtain ⟨fuel, hf⟩ := h
  obtain ⟨x, hx, ho⟩ := trod_msg hf
  refine ⟨x, ?_, ho⟩
  have : cs.toList = encM x := hx
  rw [← this, Array.toArray_toList]
abbrev flds_act24 : Array Field := #[{ name := "Kind", type := 5, offset := 0, byteOffset := 0, embedded := false, pkgPath := "", tag := "" }, { name := "M", type := 31, offset := 1, byteOffset := 8, embedded := false, pkgPath := "", tag := "" }, { name := "At", type := 3, offset := 6, byteOffset := 88, embedded := false, pkgPath := "", tag := "" }]
theorem under_act24 : Try.prog.underlying 46 = some (.struct flds_act24) := by kernel_rfl
theorem cells_act24 : Try.prog.cellsOf 46 = 7 := by kernel_rfl
theorem trod_act24 {H : Type} {encH : TypeId × Value → H} {W : World} {base : Nat} {sp : Nat → Bool} {held : Bool} {fuel : Nat} {cs : List Value} {y : DataW H × List MemPlace} (h : DataW.trod encH Try.prog W base sp held fuel 46 cs = some y) : ∃ x : Int × Mr × Int, cs = encT x ∧ (Lit.int .u8 x.1).wf = true ∧ Mo (fun _ => True) W x.2.1 ∧ (Lit.int .i64 x.2.2).wf = true := by
  obtain ⟨xs, k, _, _, hl, hx, hf⟩ := DataW.trod_struct under_act24 h
  rw [cells_act24] at hl
  match cs, hl with
  | [c0, c1, c2, c3, c4, c5, c6], _ =>
    have sm : ∀ i, i < 3 → ∃ y, xs[i]? = some y := fun i h => ⟨_, List.getElem?_eq_getElem (by rw [hx]; exact h)⟩
    obtain ⟨y0, e0⟩ := sm 0 (by omega)
    have h0 : DataW.trod encH Try.prog W base sp held k 5 (([c0, c1, c2, c3, c4, c5, c6].drop 0).take (Try.prog.cellsOf 5)) = xs[0]? := hf 0 _ rfl
    rw [e0, show Try.prog.cellsOf 5 = 1 from by kernel_rfl] at h0
    obtain ⟨fKind, g0, wKind⟩ := open_int_cell (k := .u8) (by kernel_rfl) h0
    obtain ⟨y1, e1⟩ := sm 1 (by omega)
    have h1 : DataW.trod encH Try.prog W base sp held k 31 (([c0, c1, c2, c3, c4, c5, c6].drop 1).take (Try.prog.cellsOf 31)) = xs[1]? := hf 1 _ rfl
    rw [e1, show Try.prog.cellsOf 31 = 5 from by kernel_rfl] at h1
    obtain ⟨fM, g1, wM⟩ := trod_msg h1
    obtain ⟨y2, e2⟩ := sm 2 (by omega)
    have h2 : DataW.trod encH Try.prog W base sp held k 3 (([c0, c1, c2, c3, c4, c5, c6].drop 6).take (Try.prog.cellsOf 3)) = xs[2]? := hf 2 _ rfl
    rw [e2, show Try.prog.cellsOf 3 = 1 from by kernel_rfl] at h2
    obtain ⟨fAt, g2, wAt⟩ := open_int_cell (k := .i64) (by kernel_rfl) h2
    try simp at g0 g1 g2
    refine ⟨(fKind, fM, fAt), ?_, ?_⟩
    · simp [g0, g1, g2]
    · exact ⟨wKind, wM, wAt⟩
theorem trod_acts24 {H : Type} {encH : TypeId × Value → H} {W : World} {base : Nat} {sp : Nat → Bool} {held : Bool} {fuel : Nat} {cs : List Value} {y : DataW H × List MemPlace} (h : DataW.trod encH Try.prog W base sp held fuel 42 cs = some y) : ∃ v xs, cs = [v] ∧ Sl (fun _ => True) W v 7 encT xs ∧ ∀ x ∈ xs, (Lit.int .u8 x.1).wf = true ∧ Mo (fun _ => True) W x.2.1 ∧ (Lit.int .i64 x.2.2).wf = true :=
  open_rows (by kernel_rfl) cells_act24 (by decide) encT (fun _ => rfl) (fun h => trod_act24 h) h
theorem open_act24 {H : Type} {encH : TypeId × Value → H} {r : Reach} {b0 : Nat} {W : World} {base : Nat} {sp : Nat → Bool} {held : Bool} {v : Value} {d : DataW H} {p : List MemPlace} (hv : Value.okWide Try.prog W r b0 46 v) (h : DataW.Trod encH Try.prog W base sp held 46 v d p) : ∃ x : Int × Mr × Int, v = .agg (encT x).toArray ∧ (Lit.int .u8 x.1).wf = true ∧ Mo (fun _ => True) W x.2.1 ∧ (Lit.int .i64 x.2.2).wf = true := by
  obtain ⟨cs, rfl, hsz⟩ := okWide_struct under_act24 hv
  obtain ⟨fuel, hf⟩ := h
  obtain ⟨x, hx, ho⟩ := trod_act24 hf
  refine ⟨x, ?_, ho⟩
  have : cs.toList = encT x := hx
  rw [← this, Array.toArray_toList]
abbrev flds_owed : Array Field := #[{ name := "Message", type := 31, offset := 0, byteOffset := 0, embedded := false, pkgPath := "", tag := "" }, { name := "Tries", type := 3, offset := 5, byteOffset := 80, embedded := false, pkgPath := "", tag := "" }, { name := "Next", type := 3, offset := 6, byteOffset := 88, embedded := false, pkgPath := "", tag := "" }]
theorem under_owed : Try.prog.underlying 36 = some (.struct flds_owed) := by kernel_rfl
theorem cells_owed : Try.prog.cellsOf 36 = 7 := by kernel_rfl
theorem trod_owed {H : Type} {encH : TypeId × Value → H} {W : World} {base : Nat} {sp : Nat → Bool} {held : Bool} {fuel : Nat} {cs : List Value} {y : DataW H × List MemPlace} (h : DataW.trod encH Try.prog W base sp held fuel 36 cs = some y) : ∃ x : Ow, cs = encO x ∧ Mo (fun _ => True) W x.m ∧ (Lit.int .i64 x.tr).wf = true ∧ (Lit.int .i64 x.nx).wf = true := by
  obtain ⟨xs, k, _, _, hl, hx, hf⟩ := DataW.trod_struct under_owed h
  rw [cells_owed] at hl
  match cs, hl with
  | [c0, c1, c2, c3, c4, c5, c6], _ =>
    have sm : ∀ i, i < 3 → ∃ y, xs[i]? = some y := fun i h => ⟨_, List.getElem?_eq_getElem (by rw [hx]; exact h)⟩
    obtain ⟨y0, e0⟩ := sm 0 (by omega)
    have h0 : DataW.trod encH Try.prog W base sp held k 31 (([c0, c1, c2, c3, c4, c5, c6].drop 0).take (Try.prog.cellsOf 31)) = xs[0]? := hf 0 _ rfl
    rw [e0, show Try.prog.cellsOf 31 = 5 from by kernel_rfl] at h0
    obtain ⟨fMessage, g0, wMessage⟩ := trod_msg h0
    obtain ⟨y1, e1⟩ := sm 1 (by omega)
    have h1 : DataW.trod encH Try.prog W base sp held k 3 (([c0, c1, c2, c3, c4, c5, c6].drop 5).take (Try.prog.cellsOf 3)) = xs[1]? := hf 1 _ rfl
    rw [e1, show Try.prog.cellsOf 3 = 1 from by kernel_rfl] at h1
    obtain ⟨fTries, g1, wTries⟩ := open_int_cell (k := .i64) (by kernel_rfl) h1
    obtain ⟨y2, e2⟩ := sm 2 (by omega)
    have h2 : DataW.trod encH Try.prog W base sp held k 3 (([c0, c1, c2, c3, c4, c5, c6].drop 6).take (Try.prog.cellsOf 3)) = xs[2]? := hf 2 _ rfl
    rw [e2, show Try.prog.cellsOf 3 = 1 from by kernel_rfl] at h2
    obtain ⟨fNext, g2, wNext⟩ := open_int_cell (k := .i64) (by kernel_rfl) h2
    try simp at g0 g1 g2
    refine ⟨⟨fMessage, fTries, fNext⟩, ?_, ?_⟩
    · simp [g0, g1, g2]
    · exact ⟨wMessage, wTries, wNext⟩
theorem trod_oweds {H : Type} {encH : TypeId × Value → H} {W : World} {base : Nat} {sp : Nat → Bool} {held : Bool} {fuel : Nat} {cs : List Value} {y : DataW H × List MemPlace} (h : DataW.trod encH Try.prog W base sp held fuel 33 cs = some y) : ∃ v xs, cs = [v] ∧ Sl (fun _ => True) W v 7 encO xs ∧ ∀ x ∈ xs, Mo (fun _ => True) W x.m ∧ (Lit.int .i64 x.tr).wf = true ∧ (Lit.int .i64 x.nx).wf = true :=
  open_rows (by kernel_rfl) cells_owed (by decide) encO (fun _ => rfl) (fun h => trod_owed h) h
theorem open_acts24 {H : Type} {encH : TypeId × Value → H} {r : Reach} {b0 : Nat} {W : World} {base : Nat} {sp : Nat → Bool} {held : Bool} {v : Value} {d : DataW H} {p : List MemPlace} (hv : Value.okWide Try.prog W r b0 42 v) (h : DataW.Trod encH Try.prog W base sp held 42 v d p) : ∃ xs, Sl (fun _ => True) W v 7 encT xs ∧ ∀ x ∈ xs, (Lit.int .u8 x.1).wf = true ∧ Mo (fun _ => True) W x.2.1 ∧ (Lit.int .i64 x.2.2).wf = true := by
  obtain ⟨fuel, hf⟩ := h
  obtain ⟨a0, len0, cap0, rfl⟩ := okWide_slice (e := 46) (by kernel_rfl) hv
  obtain ⟨v, xs, h1, h2⟩ := trod_acts24 hf
  have : v = .slice a0 len0 cap0 := by simpa [Value.cells] using h1.symm
  subst this
  exact ⟨xs, h2⟩
theorem open_oweds {H : Type} {encH : TypeId × Value → H} {r : Reach} {b0 : Nat} {W : World} {base : Nat} {sp : Nat → Bool} {held : Bool} {v : Value} {d : DataW H} {p : List MemPlace} (hv : Value.okWide Try.prog W r b0 33 v) (h : DataW.Trod encH Try.prog W base sp held 33 v d p) : ∃ xs, Sl (fun _ => True) W v 7 encO xs ∧ ∀ x ∈ xs, Mo (fun _ => True) W x.m ∧ (Lit.int .i64 x.tr).wf = true ∧ (Lit.int .i64 x.nx).wf = true := by
  obtain ⟨fuel, hf⟩ := h
  obtain ⟨a0, len0, cap0, rfl⟩ := okWide_slice (e := 36) (by kernel_rfl) hv
  obtain ⟨v, xs, h1, h2⟩ := trod_oweds hf
  have : v = .slice a0 len0 cap0 := by simpa [Value.cells] using h1.symm
  subst this
  exact ⟨xs, h2⟩
end Go.Proofs.Ytfaafndaelmbfaa

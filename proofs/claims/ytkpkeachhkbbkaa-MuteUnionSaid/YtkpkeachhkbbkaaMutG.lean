/- The mute laws' awake. -/
import Derived.Test.YtkpkeachhkbbkaaMutF
namespace Go.Proofs.Ytkpkeachhkbbkaa
open Go.RowKit Go.Shelf Mut
attribute [local go_sem] Oper.semAt_some

def M1 : MuteD := { nm := ⟨#[]⟩, d0 := true, d1 := false, d2 := false, d3 := true, d4 := false, d5 := false, d6 := false, f := 540, t := 1020 }
def M2 : MuteD := { nm := ⟨#[]⟩, d0 := false, d1 := false, d2 := false, d3 := true, d4 := false, d5 := false, d6 := false, f := 1320, t := 360 }
def M0 : MuteD := { nm := ⟨#[]⟩, d0 := false, d1 := false, d2 := false, d3 := false, d4 := false, d5 := false, d6 := false, f := 0, t := 0 }

/-- awake's own two mutes -/
structure AW (w W : World) : Prop where
  below : Below w.heap.size w W
  lt : w.heap.size + 1 < W.heap.size
  m1 : W.heap[w.heap.size]? = some (.cells #[.string ⟨#[]⟩, .bool true, .bool false, .bool false, .bool true, .bool false, .bool false, .bool false, .int .i64 540, .int .i64 1020] 26 (0, 0))
  m2 : W.heap[w.heap.size + 1]? = some (.cells #[.string ⟨#[]⟩, .bool false, .bool false, .bool false, .bool true, .bool false, .bool false, .bool false, .int .i64 1320, .int .i64 360] 26 (0, 0))
theorem AW.start (w : World) : AW w ((w.alloc (.cells #[.string ⟨#[]⟩, .bool true, .bool false, .bool false, .bool true, .bool false, .bool false, .bool false, .int .i64 540, .int .i64 1020] 26)).alloc (.cells #[.string ⟨#[]⟩, .bool false, .bool false, .bool false, .bool true, .bool false, .bool false, .bool false, .int .i64 1320, .int .i64 360] 26)) := by
  have e := World.alloc_heap_new (w.alloc (.cells #[.string ⟨#[]⟩, .bool true, .bool false, .bool false, .bool true, .bool false, .bool false, .bool false, .int .i64 540, .int .i64 1020] 26)) (.cells #[.string ⟨#[]⟩, .bool false, .bool false, .bool false, .bool true, .bool false, .bool false, .bool false, .int .i64 1320, .int .i64 360] 26)
  rw [World.size_alloc] at e
  exact ⟨((Below.refl _ w).alloc (Nat.le_refl _) _).alloc (by simp) _, by simp, (Below.heap_alloc _ _ _ (by simp)).trans (World.alloc_heap_new w _), e⟩
theorem AW.later {w W W' : World} (h : AW w W) (hb : Below W.heap.size W W') : AW w W' :=
  ⟨h.below.trans (hb.mono h.below.size), Nat.lt_of_lt_of_le h.lt hb.size, (hb.block _ (by have := h.lt; omega)).trans h.m1, (hb.block _ h.lt).trans h.m2⟩
theorem AW.alloc {w W : World} (h : AW w W) (o : Obj) : AW w (W.alloc o) :=
  ⟨h.below.alloc h.below.size _, by have := h.lt; simp; omega, (Below.heap_alloc _ _ _ (by have := h.lt; omega)).trans h.m1, (Below.heap_alloc _ _ _ h.lt).trans h.m2⟩
theorem AW.c1 {w W : World} (h : AW w W) : W.cell? ⟨w.heap.size, 0, none⟩ = some (.string ⟨#[]⟩) ∧ W.cell? ⟨w.heap.size, 1, none⟩ = some (.bool true) ∧ W.cell? ⟨w.heap.size, 2, none⟩ = some (.bool false) ∧ W.cell? ⟨w.heap.size, 3, none⟩ = some (.bool false) ∧ W.cell? ⟨w.heap.size, 4, none⟩ = some (.bool true) ∧ W.cell? ⟨w.heap.size, 5, none⟩ = some (.bool false) ∧ W.cell? ⟨w.heap.size, 6, none⟩ = some (.bool false) ∧ W.cell? ⟨w.heap.size, 7, none⟩ = some (.bool false) ∧ W.cell? ⟨w.heap.size, 8, none⟩ = some (.int .i64 540) ∧ W.cell? ⟨w.heap.size, 9, none⟩ = some (.int .i64 1020) := by
  have e := h.m1
  refine ⟨?_, ?_, ?_, ?_, ?_, ?_, ?_, ?_, ?_, ?_⟩ <;> simp [World.cell?, e]
theorem AW.c2 {w W : World} (h : AW w W) : W.cell? ⟨w.heap.size + 1, 0, none⟩ = some (.string ⟨#[]⟩) ∧ W.cell? ⟨w.heap.size + 1, 1, none⟩ = some (.bool false) ∧ W.cell? ⟨w.heap.size + 1, 2, none⟩ = some (.bool false) ∧ W.cell? ⟨w.heap.size + 1, 3, none⟩ = some (.bool false) ∧ W.cell? ⟨w.heap.size + 1, 4, none⟩ = some (.bool true) ∧ W.cell? ⟨w.heap.size + 1, 5, none⟩ = some (.bool false) ∧ W.cell? ⟨w.heap.size + 1, 6, none⟩ = some (.bool false) ∧ W.cell? ⟨w.heap.size + 1, 7, none⟩ = some (.bool false) ∧ W.cell? ⟨w.heap.size + 1, 8, none⟩ = some (.int .i64 1320) ∧ W.cell? ⟨w.heap.size + 1, 9, none⟩ = some (.int .i64 360) := by
  have e := h.m2
  refine ⟨?_, ?_, ?_, ?_, ?_, ?_, ?_, ?_, ?_, ?_⟩ <;> simp [World.cell?, e]
theorem sl_M {n : Int} {m : MuteD} {b : Bool} (e : sil m n = b) (w : World) : Calls Try.prog 13 #[.agg #[.string m.nm, .bool m.d0, .bool m.d1, .bool m.d2, .bool m.d3, .bool m.d4, .bool m.d5, .bool m.d6, .int .i64 m.f, .int .i64 m.t], .int .i64 n] w (TellsB b w) := e ▸ silent_any m n w
theorem nx_M {n : Int} {m : MuteD} {v : Int} (e : nxt m n = v) (w : World) : Calls Try.prog 14 #[.agg #[.string m.nm, .bool m.d0, .bool m.d1, .bool m.d2, .bool m.d3, .bool m.d4, .bool m.d5, .bool m.d6, .int .i64 m.f, .int .i64 m.t], .int .i64 n] w (TellsI v w) := e ▸ next_any m n w
theorem two_mutes (W : World) (m m' : MuteD) (b : Nat) (h : W.heap[b]? = some (.cells #[.string m.nm, .bool m.d0, .bool m.d1, .bool m.d2, .bool m.d3, .bool m.d4, .bool m.d5, .bool m.d6, .int .i64 m.f, .int .i64 m.t, .string m'.nm, .bool m'.d0, .bool m'.d1, .bool m'.d2, .bool m'.d3, .bool m'.d4, .bool m'.d5, .bool m'.d6, .int .i64 m'.f, .int .i64 m'.t] 26 (0, 0))) : Mutes W (.slice (some ⟨b, 0, none⟩) 2 2) [m, m'] := by
  refine .inr ⟨_, _, rfl, fun _ => (Array.getElem?_eq_some_iff.1 h).1, by simp, by decide, fun i x hx j v hv => ?_⟩
  match i, hx with
  | 0, hx => 
    obtain rfl : m = x := by simpa using hx
    match j, hv with
    | 0, hv | 1, hv | 2, hv | 3, hv | 4, hv | 5, hv | 6, hv | 7, hv | 8, hv | 9, hv => simp at hv; subst hv; simp [World.cell?, Addr.add, h]
  | 1, hx =>
    obtain rfl : m' = x := by simpa using hx
    match j, hv with
    | 0, hv | 1, hv | 2, hv | 3, hv | 4, hv | 5, hv | 6, hv | 7, hv | 8, hv | 9, hv => simp at hv; subst hv; simp [World.cell?, Addr.add, h]
theorem an_M {n : Int} {s : Value} {ms : List MuteD} {w : World} (h : Mutes w s ms) {b : Bool} (e : anyS ms n = b) : Calls Try.prog 12 #[.int .i64 n, s] w (TellsB b w) := e ▸ any_any h n

set_option maxRecDepth 100000 in
set_option maxHeartbeats 1000000 in
theorem awake_any (w : World) : Calls Try.prog 16 #[] w fun e w' => e = .returned (.bool true) ∧ Below w.heap.size w w' := by
  go_enter Try.func16, Try.ntmps16
  go_wp2_with fail
  refine (sl_M (m := M1) (n := 539) (show sil M1 539 = false by decide +kernel) _).mono ?_
  rintro e w0 ⟨rfl, hb⟩
  have a0 := (AW.start w).later hb
  clear hb
  obtain ⟨x0, x1, x2, x3, x4, x5, x6, x7, x8, x9⟩ := a0.c1
  go_wp2_with fail
  clear x0 x1 x2 x3 x4 x5 x6 x7 x8 x9
  refine (sl_M (m := M1) (n := 540) (show sil M1 540 = true by decide +kernel) _).mono ?_
  rintro e w1 ⟨rfl, hb⟩
  have a1 := a0.later hb
  clear a0
  clear hb
  obtain ⟨x0, x1, x2, x3, x4, x5, x6, x7, x8, x9⟩ := a1.c1
  go_wp2_with fail
  clear x0 x1 x2 x3 x4 x5 x6 x7 x8 x9
  refine (sl_M (m := M1) (n := 1019) (show sil M1 1019 = true by decide +kernel) _).mono ?_
  rintro e w2 ⟨rfl, hb⟩
  have a2 := a1.later hb
  clear a1
  clear hb
  obtain ⟨x0, x1, x2, x3, x4, x5, x6, x7, x8, x9⟩ := a2.c1
  go_wp2_with fail
  clear x0 x1 x2 x3 x4 x5 x6 x7 x8 x9
  refine (sl_M (m := M1) (n := 1020) (show sil M1 1020 = false by decide +kernel) _).mono ?_
  rintro e w3 ⟨rfl, hb⟩
  have a3 := a2.later hb
  clear a2
  clear hb
  obtain ⟨y0, y1, y2, y3, y4, y5, y6, y7, y8, y9⟩ := a3.c2
  go_wp2_with fail
  clear y0 y1 y2 y3 y4 y5 y6 y7 y8 y9
  refine (sl_M (m := M2) (n := 0) (show sil M2 0 = false by decide +kernel) _).mono ?_
  rintro e w4 ⟨rfl, hb⟩
  have a4 := a3.later hb
  clear a3
  clear hb
  obtain ⟨y0, y1, y2, y3, y4, y5, y6, y7, y8, y9⟩ := a4.c2
  go_wp2_with fail
  clear y0 y1 y2 y3 y4 y5 y6 y7 y8 y9
  refine (sl_M (m := M2) (n := 1320) (show sil M2 1320 = true by decide +kernel) _).mono ?_
  rintro e w5 ⟨rfl, hb⟩
  have a5 := a4.later hb
  clear a4
  clear hb
  obtain ⟨y0, y1, y2, y3, y4, y5, y6, y7, y8, y9⟩ := a5.c2
  go_wp2_with fail
  clear y0 y1 y2 y3 y4 y5 y6 y7 y8 y9
  refine (sl_M (m := M2) (n := 1799) (show sil M2 1799 = true by decide +kernel) _).mono ?_
  rintro e w6 ⟨rfl, hb⟩
  have a6 := a5.later hb
  clear a5
  clear hb
  obtain ⟨y0, y1, y2, y3, y4, y5, y6, y7, y8, y9⟩ := a6.c2
  go_wp2_with fail
  clear y0 y1 y2 y3 y4 y5 y6 y7 y8 y9
  refine (sl_M (m := M2) (n := 1800) (show sil M2 1800 = false by decide +kernel) _).mono ?_
  rintro e w7 ⟨rfl, hb⟩
  have a7 := a6.later hb
  clear a6
  clear hb
  obtain ⟨x0, x1, x2, x3, x4, x5, x6, x7, x8, x9⟩ := a7.c1
  go_wp2_with fail
  clear x0 x1 x2 x3 x4 x5 x6 x7 x8 x9
  refine (nx_M (m := M1) (n := 1020) (show nxt M1 1020 = 6300 by decide +kernel) _).mono ?_
  rintro e w8 ⟨rfl, hb⟩
  have a8 := a7.later hb
  clear a7
  clear hb
  go_wp2_with fail
  refine (nx_M (m := M0) (n := 5) (show nxt M0 5 = -1 by decide +kernel) _).mono ?_
  rintro e w9 ⟨rfl, hb⟩
  have a9 := a8.later hb
  clear a8
  clear hb
  obtain ⟨x0, x1, x2, x3, x4, x5, x6, x7, x8, x9⟩ := a9.c1
  obtain ⟨y0, y1, y2, y3, y4, y5, y6, y7, y8, y9⟩ := a9.c2
  go_wp2_with fail
  clear x0 x1 x2 x3 x4 x5 x6 x7 x8 x9 y0 y1 y2 y3 y4 y5 y6 y7 y8 y9
  refine (an_M (two_mutes _ M2 M1 _ (World.alloc_heap_new _ _)) (n := 540) (show anyS [M2, M1] 540 = true by decide +kernel)).mono ?_
  rintro e wb ⟨rfl, hb⟩
  have b0 := (a9.alloc _).later hb
  clear hb a9
  go_wp2_with fail
  refine (an_M (.inl ⟨rfl, rfl⟩) (n := 540) (show anyS [] 540 = false by rfl)).mono ?_
  rintro e wc ⟨rfl, hb⟩
  have b1 := b0.later hb
  clear hb b0
  go_wp2_with fail
  go_ret
  exact ⟨rfl, b1.below⟩
end Go.Proofs.Ytkpkeachhkbbkaa

/- MuteUnion: of any two sets of days, bounds and any number: a mute of both sets is silent where one or the other is. Conditions: none. -/
import Derived.Test.YtkpkeachhkbbkaaMutG
import Derived.Test.YtkpkeachhkbbkaaMutL
import Derived.Test.YtkpkeachhkbbkaaMutU
import Derived.Test.YtkpkeachhkbbkaaFrame
namespace Go.Proofs.Ytkpkeachhkbbkaa.muteUnion
open Go.ChangeShapes Go.WideShapes Go.ChangeAt Go.RowKit Mut
set_option linter.unusedVariables false
theorem set_block {W : World} {b i : Nat} {cs : Array Value} {t : TypeId} (v : Value) (h : W.heap[b]? = some (.cells cs t (0, 0))) : (W.setCell ⟨b, i, none⟩ v).heap[b]? = some (.cells (cs.setIfInBounds i v) t (0, 0)) := by
  obtain ⟨hlt, hk⟩ := Array.getElem?_eq_some_iff.1 h
  show (W.heap.modify b _)[b]? = _
  rw [Array.getElem?_eq_getElem (by rw [Array.size_modify]; exact hlt), Array.getElem_modify_self, hk]
  rfl
theorem frozen_block {W : World} {b : Nat} {cs : Array Value} {t : TypeId} (h : W.heap[b]? = some (.cells cs t (0, 0))) (i : Nat) : W.frozen? ⟨b, i, none⟩ = false := by
  simp [World.frozen?, h]
theorem cells7 {W : World} {b : Nat} {t : TypeId} {x0 x1 x2 x3 x4 x5 x6 : Bool} (h : W.heap[b]? = some (.cells #[.bool x0, .bool x1, .bool x2, .bool x3, .bool x4, .bool x5, .bool x6] t (0, 0))) : W.cell? ⟨b, 0, none⟩ = some (.bool x0) ∧ W.cell? ⟨b, 1, none⟩ = some (.bool x1) ∧ W.cell? ⟨b, 2, none⟩ = some (.bool x2) ∧ W.cell? ⟨b, 3, none⟩ = some (.bool x3) ∧ W.cell? ⟨b, 4, none⟩ = some (.bool x4) ∧ W.cell? ⟨b, 5, none⟩ = some (.bool x5) ∧ W.cell? ⟨b, 6, none⟩ = some (.bool x6) := by
  refine ⟨?_, ?_, ?_, ?_, ?_, ?_, ?_⟩ <;> simp [World.cell?, h]
/-- while the days are put together: i of them are -/
structure UN (w : World) (c : Nat) (aa ab ac ad ae af ag ba bb bc bd be bf bg : Bool) (i : Nat) (W : World) : Prop where
  below : Below w.heap.size w W
  hA : W.heap[w.heap.size]? = some (.cells #[.bool aa, .bool ab, .bool ac, .bool ad, .bool ae, .bool af, .bool ag] 24 (0, 0))
  hB : W.heap[w.heap.size + 1]? = some (.cells #[.bool ba, .bool bb, .bool bc, .bool bd, .bool be, .bool bf, .bool bg] 24 (0, 0))
  hC : W.heap[c]? = some (.cells #[.bool (decide (0 < i) && (aa || ba)), .bool (decide (1 < i) && (ab || bb)), .bool (decide (2 < i) && (ac || bc)), .bool (decide (3 < i) && (ad || bd)), .bool (decide (4 < i) && (ae || be)), .bool (decide (5 < i) && (af || bf)), .bool (decide (6 < i) && (ag || bg))] 24 (0, 0))
/-- the two mutes' blocks -/
structure UT (w : World) (p q : Nat) (aa ab ac ad ae af ag ba bb bc bd be bf bg : Bool) (f t : Int) (W : World) : Prop where
  below : Below w.heap.size w W
  m1 : W.heap[p]? = some (.cells #[.string ⟨#[]⟩, .bool aa, .bool ab, .bool ac, .bool ad, .bool ae, .bool af, .bool ag, .int .i64 f, .int .i64 t] 26 (0, 0))
  m2 : W.heap[q]? = some (.cells #[.string ⟨#[]⟩, .bool ba, .bool bb, .bool bc, .bool bd, .bool be, .bool bf, .bool bg, .int .i64 f, .int .i64 t] 26 (0, 0))
section
variable {w W W' : World} {p q c : Nat} {aa ab ac ad ae af ag ba bb bc bd be bf bg : Bool} {f t : Int}
theorem UT.later (h : UT w p q aa ab ac ad ae af ag ba bb bc bd be bf bg f t W) (hb : Below W.heap.size W W') : UT w p q aa ab ac ad ae af ag ba bb bc bd be bf bg f t W' :=
  ⟨h.below.trans (hb.mono h.below.size), (hb.block _ (Array.getElem?_eq_some_iff.1 h.m1).1).trans h.m1, (hb.block _ (Array.getElem?_eq_some_iff.1 h.m2).1).trans h.m2⟩
theorem UT.alloc (h : UT w p q aa ab ac ad ae af ag ba bb bc bd be bf bg f t W) (o : Obj) : UT w p q aa ab ac ad ae af ag ba bb bc bd be bf bg f t (W.alloc o) := h.later ((Below.refl _ _).alloc (Nat.le_refl _) _)
theorem UT.c1 (h : UT w p q aa ab ac ad ae af ag ba bb bc bd be bf bg f t W) : W.cell? ⟨p, 0, none⟩ = some (.string ⟨#[]⟩) ∧ W.cell? ⟨p, 1, none⟩ = some (.bool aa) ∧ W.cell? ⟨p, 2, none⟩ = some (.bool ab) ∧ W.cell? ⟨p, 3, none⟩ = some (.bool ac) ∧ W.cell? ⟨p, 4, none⟩ = some (.bool ad) ∧ W.cell? ⟨p, 5, none⟩ = some (.bool ae) ∧ W.cell? ⟨p, 6, none⟩ = some (.bool af) ∧ W.cell? ⟨p, 7, none⟩ = some (.bool ag) ∧ W.cell? ⟨p, 8, none⟩ = some (.int .i64 f) ∧ W.cell? ⟨p, 9, none⟩ = some (.int .i64 t) := mute_cells (m := { nm := ⟨#[]⟩, d0 := aa, d1 := ab, d2 := ac, d3 := ad, d4 := ae, d5 := af, d6 := ag, f := f, t := t }) h.m1
theorem UT.c2 (h : UT w p q aa ab ac ad ae af ag ba bb bc bd be bf bg f t W) : W.cell? ⟨q, 0, none⟩ = some (.string ⟨#[]⟩) ∧ W.cell? ⟨q, 1, none⟩ = some (.bool ba) ∧ W.cell? ⟨q, 2, none⟩ = some (.bool bb) ∧ W.cell? ⟨q, 3, none⟩ = some (.bool bc) ∧ W.cell? ⟨q, 4, none⟩ = some (.bool bd) ∧ W.cell? ⟨q, 5, none⟩ = some (.bool be) ∧ W.cell? ⟨q, 6, none⟩ = some (.bool bf) ∧ W.cell? ⟨q, 7, none⟩ = some (.bool bg) ∧ W.cell? ⟨q, 8, none⟩ = some (.int .i64 f) ∧ W.cell? ⟨q, 9, none⟩ = some (.int .i64 t) := mute_cells (m := { nm := ⟨#[]⟩, d0 := ba, d1 := bb, d2 := bc, d3 := bd, d4 := be, d5 := bf, d6 := bg, f := f, t := t }) h.m2
theorem UT.xy (hB : Below w.heap.size w W) : UT w W.heap.size (W.heap.size + 1) aa ab ac ad ae af ag ba bb bc bd be bf bg f t ((W.alloc (.cells #[.string ⟨#[]⟩, .bool aa, .bool ab, .bool ac, .bool ad, .bool ae, .bool af, .bool ag, .int .i64 f, .int .i64 t] 26)).alloc (.cells #[.string ⟨#[]⟩, .bool ba, .bool bb, .bool bc, .bool bd, .bool be, .bool bf, .bool bg, .int .i64 f, .int .i64 t] 26)).drew := by
  have e := World.alloc_heap_new (W.alloc (.cells #[.string ⟨#[]⟩, .bool aa, .bool ab, .bool ac, .bool ad, .bool ae, .bool af, .bool ag, .int .i64 f, .int .i64 t] 26)) (.cells #[.string ⟨#[]⟩, .bool ba, .bool bb, .bool bc, .bool bd, .bool be, .bool bf, .bool bg, .int .i64 f, .int .i64 t] 26)
  rw [World.size_alloc] at e
  exact ⟨((hB.alloc hB.size _).alloc (by have := hB.size; simp; omega) _).drew, (Below.heap_alloc _ _ _ (by simp)).trans (World.alloc_heap_new W _), e⟩
theorem UT.yx (hB : Below w.heap.size w W) : UT w (W.heap.size + 1) W.heap.size aa ab ac ad ae af ag ba bb bc bd be bf bg f t ((W.alloc (.cells #[.string ⟨#[]⟩, .bool ba, .bool bb, .bool bc, .bool bd, .bool be, .bool bf, .bool bg, .int .i64 f, .int .i64 t] 26)).alloc (.cells #[.string ⟨#[]⟩, .bool aa, .bool ab, .bool ac, .bool ad, .bool ae, .bool af, .bool ag, .int .i64 f, .int .i64 t] 26)).drew := by
  have e := World.alloc_heap_new (W.alloc (.cells #[.string ⟨#[]⟩, .bool ba, .bool bb, .bool bc, .bool bd, .bool be, .bool bf, .bool bg, .int .i64 f, .int .i64 t] 26)) (.cells #[.string ⟨#[]⟩, .bool aa, .bool ab, .bool ac, .bool ad, .bool ae, .bool af, .bool ag, .int .i64 f, .int .i64 t] 26)
  rw [World.size_alloc] at e
  exact ⟨((hB.alloc hB.size _).alloc (by have := hB.size; simp; omega) _).drew, e, (Below.heap_alloc _ _ _ (by simp)).trans (World.alloc_heap_new W _)⟩
theorem UN.put {i : Nat} (h : UN w c aa ab ac ad ae af ag ba bb bc bd be bf bg i W) (hc : w.heap.size + 1 < c) {v : Bool} (hi : i < 7) (hv : v = (#[aa || ba, ab || bb, ac || bc, ad || bd, ae || be, af || bf, ag || bg][i]?).getD false) : UN w c aa ab ac ad ae af ag ba bb bc bd be bf bg (i + 1) (W.setCell ⟨c, i, none⟩ (.bool v)) := by
  refine ⟨h.below.setCell (p := ⟨c, i, none⟩) (by simp; omega) _, (Below.heap_setCell _ _ _ _ (by simp; omega)).trans h.hA, (Below.heap_setCell _ _ _ _ (by simp; omega)).trans h.hB, ?_⟩
  rw [set_block _ h.hC, hv]
  rcases (by omega : i = 0 ∨ i = 1 ∨ i = 2 ∨ i = 3 ∨ i = 4 ∨ i = 5 ∨ i = 6) with e | e | e | e | e | e | e <;> subst e <;> simp
end
set_option maxRecDepth 100000 in
set_option maxHeartbeats 4000000 in
theorem walk (aa ab ac ad ae af ag ba bb bc bd be bf bg : Bool) (f t n : Int) (wf : (Lit.int .i64 f).wf = true) (wt : (Lit.int .i64 t).wf = true) (wn : (Lit.int .i64 n).wf = true) (w : World) : Calls Try.prog 8 #[.agg #[.bool aa, .bool ab, .bool ac, .bool ad, .bool ae, .bool af, .bool ag], .agg #[.bool ba, .bool bb, .bool bc, .bool bd, .bool be, .bool bf, .bool bg], .int .i64 f, .int .i64 t, .int .i64 n] w fun e w' => e = .returned (.bool true) ∧ Below w.heap.size w w' := by
  go_enter Try.func8, Try.ntmps8
  go_wp2_with fail
  refine (awake_any _).mono ?_
  rintro e w1 ⟨rfl, hb⟩
  have hB : Below w.heap.size w w1 := (((Below.refl _ w).alloc (Nat.le_refl _) _).alloc (by simp) _).trans (hb.mono (by simp; omega))
  have e1 := World.alloc_heap_new (w.alloc (.cells #[.bool aa, .bool ab, .bool ac, .bool ad, .bool ae, .bool af, .bool ag] 24)) (.cells #[.bool ba, .bool bb, .bool bc, .bool bd, .bool be, .bool bf, .bool bg] 24)
  rw [World.size_alloc] at e1
  have hbA := (hb.block _ (by simp; omega)).trans ((Below.heap_alloc (w.alloc (.cells #[.bool aa, .bool ab, .bool ac, .bool ad, .bool ae, .bool af, .bool ag] 24)) (.cells #[.bool ba, .bool bb, .bool bc, .bool bd, .bool be, .bool bf, .bool bg] 24) _ (by simp)).trans (World.alloc_heap_new w (.cells #[.bool aa, .bool ab, .bool ac, .bool ad, .bool ae, .bool af, .bool ag] 24)))
  have hbB := (hb.block _ (by simp)).trans e1
  have hlt1 := (Array.getElem?_eq_some_iff.1 hbB).1
  clear hb e1
  go_wp2_with fail
  go_loopw [12] (fun v wr => ∃ i : Nat, v = .int .i64 i ∧ i ≤ 7 ∧ UN w w1.heap.size aa ab ac ad ae af ag ba bb bc bd be bf bg i wr) (fun v _ => 7 - (intOf v).toNat)
  · exact ⟨0, rfl, by omega, hB.alloc hB.size _, (Below.heap_alloc _ _ _ (by omega)).trans hbA, (Below.heap_alloc _ _ _ hlt1).trans hbB, World.alloc_heap_new w1 _⟩
  clear hbA hbB hB
  obtain ⟨i, rfl, hi, U⟩ := hrel
  by_cases h7 : i < 7
  · obtain ⟨c0, c1, c2, c3, c4, c5, c6⟩ := cells7 U.hA
    obtain ⟨d0, d1, d2, d3, d4, d5, d6⟩ := cells7 U.hB
    obtain ⟨e0, e1, e2, e3, e4, e5, e6⟩ := cells7 U.hC
    have fz := frozen_block U.hC
    have HU := Lib.hid U
    clear U
    rcases (by omega : i = 0 ∨ i = 1 ∨ i = 2 ∨ i = 3 ∨ i = 4 ∨ i = 5 ∨ i = 6) with e | e | e | e | e | e | e <;> subst e
    · cases aa
      all_goals go_wp2_with fail
      all_goals exact ⟨⟨1, rfl, by omega, HU.out.put hlt1 (by omega) rfl⟩, by simp [intOf]⟩
    · cases ab
      all_goals go_wp2_with fail
      all_goals exact ⟨⟨2, rfl, by omega, HU.out.put hlt1 (by omega) rfl⟩, by simp [intOf]⟩
    · cases ac
      all_goals go_wp2_with fail
      all_goals exact ⟨⟨3, rfl, by omega, HU.out.put hlt1 (by omega) rfl⟩, by simp [intOf]⟩
    · cases ad
      all_goals go_wp2_with fail
      all_goals exact ⟨⟨4, rfl, by omega, HU.out.put hlt1 (by omega) rfl⟩, by simp [intOf]⟩
    · cases ae
      all_goals go_wp2_with fail
      all_goals exact ⟨⟨5, rfl, by omega, HU.out.put hlt1 (by omega) rfl⟩, by simp [intOf]⟩
    · cases af
      all_goals go_wp2_with fail
      all_goals exact ⟨⟨6, rfl, by omega, HU.out.put hlt1 (by omega) rfl⟩, by simp [intOf]⟩
    · cases ag
      all_goals go_wp2_with fail
      all_goals exact ⟨⟨7, rfl, by omega, HU.out.put hlt1 (by omega) rfl⟩, by simp [intOf]⟩
  · have : i = 7 := by omega
    subst this
    obtain ⟨c0, c1, c2, c3, c4, c5, c6⟩ := cells7 U.hA
    obtain ⟨d0, d1, d2, d3, d4, d5, d6⟩ := cells7 U.hB
    have hC := U.hC
    have hltc := (Array.getElem?_eq_some_iff.1 hC).1
    have hlta := (Array.getElem?_eq_some_iff.1 U.hA).1
    have hltb := (Array.getElem?_eq_some_iff.1 U.hB).1
    have hC0 := Lib.hid hC
    simp at hC
    obtain ⟨e0, e1, e2, e3, e4, e5, e6⟩ := cells7 hC
    have HU := Lib.hid U.below
    clear U hC
    obtain ⟨x, hx⟩ : ∃ x, sil { nm := ⟨#[]⟩, d0 := aa, d1 := ab, d2 := ac, d3 := ad, d4 := ae, d5 := af, d6 := ag, f := f, t := t } n = x := ⟨_, rfl⟩
    obtain ⟨y, hy⟩ : ∃ y, sil { nm := ⟨#[]⟩, d0 := ba, d1 := bb, d2 := bc, d3 := bd, d4 := be, d5 := bf, d6 := bg, f := f, t := t } n = y := ⟨_, rfl⟩
    have hu : sil (orD { nm := ⟨#[]⟩, d0 := aa, d1 := ab, d2 := ac, d3 := ad, d4 := ae, d5 := af, d6 := ag, f := f, t := t } { nm := ⟨#[]⟩, d0 := ba, d1 := bb, d2 := bc, d3 := bd, d4 := be, d5 := bf, d6 := bg, f := f, t := t }) n = (x || y) := (sil_or { nm := ⟨#[]⟩, d0 := aa, d1 := ab, d2 := ac, d3 := ad, d4 := ae, d5 := af, d6 := ag, f := f, t := t } { nm := ⟨#[]⟩, d0 := ba, d1 := bb, d2 := bc, d3 := bd, d4 := be, d5 := bf, d6 := bg, f := f, t := t } n rfl rfl).trans (by rw [hx, hy])
    have han : anyS [{ nm := ⟨#[]⟩, d0 := aa, d1 := ab, d2 := ac, d3 := ad, d4 := ae, d5 := af, d6 := ag, f := f, t := t }, { nm := ⟨#[]⟩, d0 := ba, d1 := bb, d2 := bc, d3 := bd, d4 := be, d5 := bf, d6 := bg, f := f, t := t }] n = (x || y) := by unfold anyS; rw [List.any_cons, List.any_cons, hx, hy]; simp
    have Q1 : Hid (∀ (W : World), Calls Try.prog 13 #[.agg #[.string ⟨#[]⟩, .bool aa, .bool ab, .bool ac, .bool ad, .bool ae, .bool af, .bool ag, .int .i64 f, .int .i64 t], .int .i64 n] W (TellsB x W)) := Lib.hid fun W => sl_M hx W
    have Q2 : Hid (∀ (W : World), Calls Try.prog 13 #[.agg #[.string ⟨#[]⟩, .bool ba, .bool bb, .bool bc, .bool bd, .bool be, .bool bf, .bool bg, .int .i64 f, .int .i64 t], .int .i64 n] W (TellsB y W)) := Lib.hid fun W => sl_M hy W
    have Q3 : Hid (∀ (W : World), Calls Try.prog 13 #[.agg #[.string ⟨#[]⟩, .bool (aa || ba), .bool (ab || bb), .bool (ac || bc), .bool (ad || bd), .bool (ae || be), .bool (af || bf), .bool (ag || bg), .int .i64 f, .int .i64 t], .int .i64 n] W (TellsB (x || y) W)) := Lib.hid fun W => sl_M hu W
    have Q4 : Hid (∀ (W : World), Calls Try.prog 12 #[.int .i64 n, .slice (some ⟨W.heap.size, 0, none⟩) 2 2] (W.alloc (.cells #[.string ⟨#[]⟩, .bool aa, .bool ab, .bool ac, .bool ad, .bool ae, .bool af, .bool ag, .int .i64 f, .int .i64 t, .string ⟨#[]⟩, .bool ba, .bool bb, .bool bc, .bool bd, .bool be, .bool bf, .bool bg, .int .i64 f, .int .i64 t] 26)) (TellsB (x || y) (W.alloc (.cells #[.string ⟨#[]⟩, .bool aa, .bool ab, .bool ac, .bool ad, .bool ae, .bool af, .bool ag, .int .i64 f, .int .i64 t, .string ⟨#[]⟩, .bool ba, .bool bb, .bool bc, .bool bd, .bool be, .bool bf, .bool bg, .int .i64 f, .int .i64 t] 26)))) := Lib.hid fun W => an_M (two_mutes _ { nm := ⟨#[]⟩, d0 := aa, d1 := ab, d2 := ac, d3 := ad, d4 := ae, d5 := af, d6 := ag, f := f, t := t } { nm := ⟨#[]⟩, d0 := ba, d1 := bb, d2 := bc, d3 := bd, d4 := be, d5 := bf, d6 := bg, f := f, t := t } _ (World.alloc_heap_new _ _)) han
    clear hx hy hu han hC0
    go_wp2_with fail
    go_region
    all_goals clear c0 c1 c2 c3 c4 c5 c6 d0 d1 d2 d3 d4 d5 d6
    · go_wp2_with fail
      refine Calls.mono (Q3.out _) ?_
      rintro e w2 ⟨rfl, hb⟩
      have U := (UT.xy HU.out (ba := ba)).later hb
      clear hb e0 e1 e2 e3 e4 e5 e6 Q3 HU hltc hlta hltb
      obtain ⟨c0, c1, c2, c3, c4, c5, c6, c7, c8, c9⟩ := U.c1
      obtain ⟨d0, d1, d2, d3, d4, d5, d6, d7, d8, d9⟩ := U.c2
      cases x
      · cases y
        · go_wp2_with fail
          refine Calls.mono (Q1.out _) ?_
          rintro e w3 ⟨rfl, hb⟩
          have U1 := (U).later hb
          clear hb c0 c1 c2 c3 c4 c5 c6 c7 c8 c9 d0 d1 d2 d3 d4 d5 d6 d7 d8 d9
          obtain ⟨c0, c1, c2, c3, c4, c5, c6, c7, c8, c9⟩ := U1.c1
          obtain ⟨d0, d1, d2, d3, d4, d5, d6, d7, d8, d9⟩ := U1.c2
          go_wp2_with fail
          refine Calls.mono (Q2.out _) ?_
          rintro e w4 ⟨rfl, hb⟩
          have U2 := (U1).later hb
          clear hb c0 c1 c2 c3 c4 c5 c6 c7 c8 c9 d0 d1 d2 d3 d4 d5 d6 d7 d8 d9
          obtain ⟨c0, c1, c2, c3, c4, c5, c6, c7, c8, c9⟩ := U2.c1
          obtain ⟨d0, d1, d2, d3, d4, d5, d6, d7, d8, d9⟩ := U2.c2
          go_wp2_with fail
          refine Calls.mono (Q4.out _) ?_
          rintro e w5 ⟨rfl, hb⟩
          have U3 := (U2.alloc _).later hb
          clear hb c0 c1 c2 c3 c4 c5 c6 c7 c8 c9 d0 d1 d2 d3 d4 d5 d6 d7 d8 d9
          obtain ⟨c0, c1, c2, c3, c4, c5, c6, c7, c8, c9⟩ := U3.c1
          obtain ⟨d0, d1, d2, d3, d4, d5, d6, d7, d8, d9⟩ := U3.c2
          go_wp2_with fail
          go_ret
          exact ⟨rfl, U3.below⟩
        · go_wp2_with fail
          refine Calls.mono (Q1.out _) ?_
          rintro e w3 ⟨rfl, hb⟩
          have U1 := (U).later hb
          clear hb c0 c1 c2 c3 c4 c5 c6 c7 c8 c9 d0 d1 d2 d3 d4 d5 d6 d7 d8 d9
          obtain ⟨c0, c1, c2, c3, c4, c5, c6, c7, c8, c9⟩ := U1.c1
          obtain ⟨d0, d1, d2, d3, d4, d5, d6, d7, d8, d9⟩ := U1.c2
          go_wp2_with fail
          refine Calls.mono (Q2.out _) ?_
          rintro e w4 ⟨rfl, hb⟩
          have U2 := (U1).later hb
          clear hb c0 c1 c2 c3 c4 c5 c6 c7 c8 c9 d0 d1 d2 d3 d4 d5 d6 d7 d8 d9
          obtain ⟨c0, c1, c2, c3, c4, c5, c6, c7, c8, c9⟩ := U2.c1
          obtain ⟨d0, d1, d2, d3, d4, d5, d6, d7, d8, d9⟩ := U2.c2
          go_wp2_with fail
          refine Calls.mono (Q4.out _) ?_
          rintro e w5 ⟨rfl, hb⟩
          have U3 := (U2.alloc _).later hb
          clear hb c0 c1 c2 c3 c4 c5 c6 c7 c8 c9 d0 d1 d2 d3 d4 d5 d6 d7 d8 d9
          obtain ⟨c0, c1, c2, c3, c4, c5, c6, c7, c8, c9⟩ := U3.c1
          obtain ⟨d0, d1, d2, d3, d4, d5, d6, d7, d8, d9⟩ := U3.c2
          go_wp2_with fail
          go_ret
          exact ⟨rfl, U3.below⟩
      · go_wp2_with fail
        refine Calls.mono (Q1.out _) ?_
        rintro e w3 ⟨rfl, hb⟩
        have U1 := (U).later hb
        clear hb c0 c1 c2 c3 c4 c5 c6 c7 c8 c9 d0 d1 d2 d3 d4 d5 d6 d7 d8 d9
        obtain ⟨c0, c1, c2, c3, c4, c5, c6, c7, c8, c9⟩ := U1.c1
        obtain ⟨d0, d1, d2, d3, d4, d5, d6, d7, d8, d9⟩ := U1.c2
        go_wp2_with fail
        refine Calls.mono (Q4.out _) ?_
        rintro e w5 ⟨rfl, hb⟩
        have U3 := (U1.alloc _).later hb
        clear hb c0 c1 c2 c3 c4 c5 c6 c7 c8 c9 d0 d1 d2 d3 d4 d5 d6 d7 d8 d9
        obtain ⟨c0, c1, c2, c3, c4, c5, c6, c7, c8, c9⟩ := U3.c1
        obtain ⟨d0, d1, d2, d3, d4, d5, d6, d7, d8, d9⟩ := U3.c2
        go_wp2_with fail
        go_ret
        exact ⟨rfl, U3.below⟩
    · go_wp2_with fail
      refine Calls.mono (Q3.out _) ?_
      rintro e w2 ⟨rfl, hb⟩
      have U := (UT.yx HU.out (ba := ba)).later hb
      clear hb e0 e1 e2 e3 e4 e5 e6 Q3 HU hltc hlta hltb
      obtain ⟨c0, c1, c2, c3, c4, c5, c6, c7, c8, c9⟩ := U.c1
      obtain ⟨d0, d1, d2, d3, d4, d5, d6, d7, d8, d9⟩ := U.c2
      cases x
      · cases y
        · go_wp2_with fail
          refine Calls.mono (Q1.out _) ?_
          rintro e w3 ⟨rfl, hb⟩
          have U1 := (U).later hb
          clear hb c0 c1 c2 c3 c4 c5 c6 c7 c8 c9 d0 d1 d2 d3 d4 d5 d6 d7 d8 d9
          obtain ⟨c0, c1, c2, c3, c4, c5, c6, c7, c8, c9⟩ := U1.c1
          obtain ⟨d0, d1, d2, d3, d4, d5, d6, d7, d8, d9⟩ := U1.c2
          go_wp2_with fail
          refine Calls.mono (Q2.out _) ?_
          rintro e w4 ⟨rfl, hb⟩
          have U2 := (U1).later hb
          clear hb c0 c1 c2 c3 c4 c5 c6 c7 c8 c9 d0 d1 d2 d3 d4 d5 d6 d7 d8 d9
          obtain ⟨c0, c1, c2, c3, c4, c5, c6, c7, c8, c9⟩ := U2.c1
          obtain ⟨d0, d1, d2, d3, d4, d5, d6, d7, d8, d9⟩ := U2.c2
          go_wp2_with fail
          refine Calls.mono (Q4.out _) ?_
          rintro e w5 ⟨rfl, hb⟩
          have U3 := (U2.alloc _).later hb
          clear hb c0 c1 c2 c3 c4 c5 c6 c7 c8 c9 d0 d1 d2 d3 d4 d5 d6 d7 d8 d9
          obtain ⟨c0, c1, c2, c3, c4, c5, c6, c7, c8, c9⟩ := U3.c1
          obtain ⟨d0, d1, d2, d3, d4, d5, d6, d7, d8, d9⟩ := U3.c2
          go_wp2_with fail
          go_ret
          exact ⟨rfl, U3.below⟩
        · go_wp2_with fail
          refine Calls.mono (Q1.out _) ?_
          rintro e w3 ⟨rfl, hb⟩
          have U1 := (U).later hb
          clear hb c0 c1 c2 c3 c4 c5 c6 c7 c8 c9 d0 d1 d2 d3 d4 d5 d6 d7 d8 d9
          obtain ⟨c0, c1, c2, c3, c4, c5, c6, c7, c8, c9⟩ := U1.c1
          obtain ⟨d0, d1, d2, d3, d4, d5, d6, d7, d8, d9⟩ := U1.c2
          go_wp2_with fail
          refine Calls.mono (Q2.out _) ?_
          rintro e w4 ⟨rfl, hb⟩
          have U2 := (U1).later hb
          clear hb c0 c1 c2 c3 c4 c5 c6 c7 c8 c9 d0 d1 d2 d3 d4 d5 d6 d7 d8 d9
          obtain ⟨c0, c1, c2, c3, c4, c5, c6, c7, c8, c9⟩ := U2.c1
          obtain ⟨d0, d1, d2, d3, d4, d5, d6, d7, d8, d9⟩ := U2.c2
          go_wp2_with fail
          refine Calls.mono (Q4.out _) ?_
          rintro e w5 ⟨rfl, hb⟩
          have U3 := (U2.alloc _).later hb
          clear hb c0 c1 c2 c3 c4 c5 c6 c7 c8 c9 d0 d1 d2 d3 d4 d5 d6 d7 d8 d9
          obtain ⟨c0, c1, c2, c3, c4, c5, c6, c7, c8, c9⟩ := U3.c1
          obtain ⟨d0, d1, d2, d3, d4, d5, d6, d7, d8, d9⟩ := U3.c2
          go_wp2_with fail
          go_ret
          exact ⟨rfl, U3.below⟩
      · go_wp2_with fail
        refine Calls.mono (Q1.out _) ?_
        rintro e w3 ⟨rfl, hb⟩
        have U1 := (U).later hb
        clear hb c0 c1 c2 c3 c4 c5 c6 c7 c8 c9 d0 d1 d2 d3 d4 d5 d6 d7 d8 d9
        obtain ⟨c0, c1, c2, c3, c4, c5, c6, c7, c8, c9⟩ := U1.c1
        obtain ⟨d0, d1, d2, d3, d4, d5, d6, d7, d8, d9⟩ := U1.c2
        go_wp2_with fail
        refine Calls.mono (Q4.out _) ?_
        rintro e w5 ⟨rfl, hb⟩
        have U3 := (U1.alloc _).later hb
        clear hb c0 c1 c2 c3 c4 c5 c6 c7 c8 c9 d0 d1 d2 d3 d4 d5 d6 d7 d8 d9
        obtain ⟨c0, c1, c2, c3, c4, c5, c6, c7, c8, c9⟩ := U3.c1
        obtain ⟨d0, d1, d2, d3, d4, d5, d6, d7, d8, d9⟩ := U3.c2
        go_wp2_with fail
        go_ret
        exact ⟨rfl, U3.below⟩
set_option maxRecDepth 100000 in
theorem lifted (os : Os) (started : os.Started) (H : Type) (enc : TypeId × Value → H) :
    ReturnsInHanded {} Try.checked os 8 .any (Rows.muteUnionSpec.pre6 enc Try.prog Try.f8 Rows.muteUnionRow.domain false) (Rows.muteUnionSpec.post enc Try.prog Try.f8 false true false false) := by
  refine returnsInHanded_of_change (C := Try.checked) own_knob started (by kernel_rfl) Try.func8
    (ChangeSpec.witness6 (enc := enc) (C := Try.checked) false ⟨#[], #[.agg #[.bool false, .bool false, .bool false, .bool false, .bool false, .bool false, .bool false], .agg #[.bool false, .bool false, .bool false, .bool false, .bool false, .bool false, .bool false], .int .i64 0, .int .i64 0, .int .i64 0], []⟩ 8 (by kernel_rfl) (by kernel_rfl) (by kernel_rfl) (by kernel_rfl)) ?_
  intro W base args ds gs before hval0 hW hcnd _
  refine law_contract (spec := Rows.muteUnionSpec) rfl ?_ (by rfl) ?_ hW ?_
  · intro ds hlen
    rw [Try.params8] at hlen
    match ds, hlen with
    | [d0, d1, d2, d3, d4], _ => rfl
  · rw [Try.params8]
    intro t ht
    simp only [List.mem_cons, List.not_mem_nil, or_false] at ht
    rcases ht with rfl | rfl | rfl | rfl | rfl <;> exact ⟨by kernel_rfl, of_decide_eq_true (by kernel_rfl)⟩
  have hval : ∀ (j : Nat) t v, Try.f8.params[j]? = some t → args[j]? = some v → Value.okWide Try.prog W .any base t v := hval0
  obtain ⟨p, q, hA0, _, _, _, _⟩ := hW
  have hA : DataW.TrodAll enc Try.prog W 0 (fun _ => true) true Try.f8.params.toList args.toList ds p := hA0
  rw [Try.params8] at hA hval
  obtain ⟨v0, vs0, d0, ds0, p0, q0, hargs, rfl, rfl, h0, r0⟩ := trodAll_cons hA
  obtain ⟨v1, vs1, d1, ds1, p1, q1, rfl, rfl, rfl, h1, r1⟩ := trodAll_cons r0
  obtain ⟨v2, vs2, d2, ds2, p2, q2, rfl, rfl, rfl, h2, r2⟩ := trodAll_cons r1
  obtain ⟨v3, vs3, d3, ds3, p3, q3, rfl, rfl, rfl, h3, r3⟩ := trodAll_cons r2
  obtain ⟨v4, vs4, d4, ds4, p4, q4, rfl, rfl, rfl, h4, r4⟩ := trodAll_cons r3
  obtain ⟨rfl, rfl, rfl⟩ := trodAll_nil r4
  obtain rfl : args = #[v0, v1, v2, v3, v4] := by cases args; simp_all
  obtain ⟨a0a, a0b, a0c, a0d, a0e, a0f, a0g, rfl⟩ := open_days (hval 0 _ v0 rfl rfl) h0
  obtain ⟨a1a, a1b, a1c, a1d, a1e, a1f, a1g, rfl⟩ := open_days (hval 1 _ v1 rfl rfl) h1
  obtain ⟨a2, rfl, rfl, rfl, w2⟩ := open_int Try.underlying3 (hval 2 _ v2 rfl rfl) h2
  obtain ⟨a3, rfl, rfl, rfl, w3⟩ := open_int Try.underlying3 (hval 3 _ v3 rfl rfl) h3
  obtain ⟨a4, rfl, rfl, rfl, w4⟩ := open_int Try.underlying3 (hval 4 _ v4 rfl rfl) h4
  exact walk a0a a0b a0c a0d a0e a0f a0g a1a a1b a1c a1d a1e a1f a1g a2 a3 a4 w2 w3 w4 W
theorem over : Rows.muteUnionRow.holds Try.pinned (OpenSpec.ofChange Rows.muteUnionSpec) :=
  OpenClaim.holds_of_wide 8 Try.f8 rfl rfl rfl rfl rfl rfl rfl ⟨rfl, rfl, rfl, rfl, rfl⟩ rfl rfl rfl rfl rfl (by kernel_rfl) Try.func8 (by kernel_rfl)
    (of_decide_eq_true (by kernel_rfl)) (by unfold Func.isWrapper; first | (rw [if_pos (by decide +kernel)]; kernel_rfl) | (rw [if_neg (by decide +kernel)]; exact ⟨rfl, rfl⟩))
    (fun os started H enc _ => lifted os started H enc)
theorem proved : Rows.MuteUnionSaid := over
#print axioms proved
end Go.Proofs.Ytkpkeachhkbbkaa.muteUnion

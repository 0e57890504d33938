/- Great -/
import Derived.Test.YtfaafndaelmbfaaOAwk
import Derived.Test.YtfaafndaelmbfaaOOpn
namespace Go.Proofs.Ytfaafndaelmbfaa
open Go.RowKit
attribute [local go_sem] Oper.semAt_some

theorem encT_len (x : Int × Mr × Int) : (encT x).length = 7 := rfl
def GreatTo (xs : List (Int × Mr × Int)) (w : World) (e : Ending) (w' : World) : Prop := ∃ bg, e = .returned (.bool bg) ∧ (bg = false → xs.length ≤ 200 ∧ ∀ x ∈ xs, x.2.1.m.ks.length ≤ 2000 ∧ x.2.1.m.ss.length ≤ 2000) ∧ Below w.heap.size w w'
theorem cells_T {W : World} {a : Addr} {xs : List (Int × Mr × Int)} {k : Nat} {x : Int × Mr × Int} (h : RowAt W a 7 encT xs) (hx : xs[k]? = some x) :
    W.cell? (a.add (k * 7)) = some (.int .u8 x.1) ∧ W.cell? ⟨(a.add (k * 7)).block, (a.add (k * 7)).off + 1, none⟩ = some (.int .u32 x.2.1.m.rule) ∧ W.cell? ⟨(a.add (k * 7)).block, (a.add (k * 7)).off + 2, none⟩ = some (.string x.2.1.m.route) ∧ W.cell? ⟨(a.add (k * 7)).block, (a.add (k * 7)).off + 3, none⟩ = some (.int .i64 x.2.1.m.at_) ∧
    W.cell? ⟨(a.add (k * 7)).block, (a.add (k * 7)).off + 4, none⟩ = some x.2.1.kv ∧ W.cell? ⟨(a.add (k * 7)).block, (a.add (k * 7)).off + 5, none⟩ = some x.2.1.sv ∧ W.cell? ⟨(a.add (k * 7)).block, (a.add (k * 7)).off + 6, none⟩ = some (.int .i64 x.2.2) := by
  have x0 := h k _ hx 0 _ rfl
  rw [Addr.add_zero'] at x0
  exact ⟨x0, h k _ hx 1 _ rfl, h k _ hx 2 _ rfl, h k _ hx 3 _ rfl, h k _ hx 4 _ rfl, h k _ hx 5 _ rfl, h k _ hx 6 _ rfl⟩
set_option maxRecDepth 100000 in
set_option maxHeartbeats 2000000 in
theorem great_any {S T : Nat → Prop} {v : Value} {xs : List (Int × Mr × Int)} {w : World} (h : Sl S w v 7 encT xs) (hm : ∀ x ∈ xs, Mo T w x.2.1) : Calls Try.prog 14 #[v] w (GreatTo xs w) := by
  obtain ⟨p, c, rfl, -, -⟩ := h.len
  have HL := Lib.hid h
  have HM := Lib.hid hm
  clear h hm
  by_cases hbig : xs.length ≤ 200
  · have hbig' : ¬ (200 : Int) < (xs.length : Int) := by omega
    go_enter Try.func14, Try.ntmps14
    go_wp2_with fail
    go_loopw [3, 4] (fun n_ iv_ wr => ∃ (k : Nat) (n : Int), iv_ = .int .i64 k ∧ n_ = .int .i64 n ∧ 0 ≤ n ∧ n ≤ 4000 * k ∧ k ≤ xs.length ∧ (∀ x ∈ xs.take k, x.2.1.m.ks.length ≤ 2000 ∧ x.2.1.m.ss.length ≤ 2000) ∧ Below w.heap.size w wr) (fun _ iv_ _ => xs.length - (intOf iv_).toNat)
    · exact ⟨0, 0, rfl, rfl, by omega, by omega, by omega, (fun x hx => by simp at hx), Below.refl _ _⟩
    obtain ⟨k, n, rfl, rfl, hn0, hn1, hk, hF, hB⟩ := hrel
    have HF := Lib.hid hF
    have HB := Lib.hid hB
    clear hF hB
    by_cases hlt : k < xs.length
    · obtain ⟨⟨kd, ⟨kv, sv, m⟩, at_⟩, hx⟩ : ∃ x, xs[k]? = some x := ⟨_, List.getElem?_eq_getElem hlt⟩
      obtain ⟨a, rfl, -, -, hrow⟩ := (HL.out.below HB.out).at hx
      obtain ⟨x0, x1, x2, x3, x4, x5, x6⟩ := cells_T hrow hx
      have hmo := HM.out _ (List.mem_of_getElem? hx)
      obtain ⟨q1, d1, e3, -, -⟩ := hmo.k.len
      obtain ⟨q2, d2, e4, -, -⟩ := hmo.s.len
      simp only at e3 e4 x0 x1 x2 x3 x4 x5 x6
      subst e3 e4
      have hkk : (k : Int) < (xs.length : Int) := by omega
      have HX := Lib.hid hx
      clear hrow hx hmo
      by_cases g1 : m.ks.length ≤ 2000
      · have g1' : ¬ (2000 : Int) < (m.ks.length : Int) := by omega
        by_cases g2 : m.ss.length ≤ 2000
        · have g2' : ¬ (2000 : Int) < (m.ss.length : Int) := by omega
          have w1 : IntKind.i64.wrap (n + (m.ks.length : Int)) = n + (m.ks.length : Int) := IntWalk.i64_in _ ⟨by omega, by omega⟩
          have w2 : IntKind.i64.wrap (n + (m.ks.length : Int) + (m.ss.length : Int)) = n + (m.ks.length : Int) + (m.ss.length : Int) := IntWalk.i64_in _ ⟨by omega, by omega⟩
          have HS : Hid (∀ x ∈ xs.take (k + 1), x.2.1.m.ks.length ≤ 2000 ∧ x.2.1.m.ss.length ≤ 2000) := Lib.hid (by
            intro x hx'
            rw [take_snoc' HX.out] at hx'
            rcases List.mem_append.1 hx' with hx' | hx'
            · exact HF.out x hx'
            · obtain rfl := List.mem_singleton.1 hx'
              exact ⟨g1, g2⟩)
          go_wp2_with fail
          refine wp_region_ordH [0, 1, 2, 3, 4, 5, 6, 7, 8, 9, 10, 11, 12, 13, 14, 15, 16, 17] (fun w' => Below wr.heap.size wr w') (by kernel_rfl) (by kernel_rfl) ?_
          have hb0 : Below wr.heap.size wr wr.drew := (Below.refl _ wr).drew
          iterate 18 ((first | (refine ordH_free (v := ?_) rfl (by kernel_rfl) (fun _ _ _ h => h) (Or.inl ⟨rfl, fun w' hS => ?_⟩) hb0 ?_; rotate_left; (have x4 := cell_below x4 hS; have x5 := cell_below x5 hS; go_simp <;> with_reducible rfl)) | (refine ordH_free (v := undef) rfl (by kernel_rfl) (fun _ _ _ h => h) (Or.inr ⟨rfl, rfl⟩) hb0 ?_)); (simp only [Act.put, List.setIfInBounds_toArray, List.set_cons_zero, List.set_cons_succ]))
          refine ⟨by kernel_rfl, ?_⟩
          have HB1 := Lib.hid (below_then HB.out hb0)
          clear x0 x1 x2 x3 x4 x5 x6
          go_wp2_with fail
          exact ⟨⟨k + 1, _, by simp, rfl, by omega, by omega, by omega, HS.out, HB1.out⟩, by simp [intOf]; omega⟩
        · have g2' : (2000 : Int) < (m.ss.length : Int) := by omega
          go_wp2_with fail
          go_ret
          exact ⟨_, rfl, (fun e => by cases e), HB.out⟩
      · have g1' : (2000 : Int) < (m.ks.length : Int) := by omega
        go_wp2_with fail
        go_ret
        exact ⟨_, rfl, (fun e => by cases e), HB.out⟩
    · obtain rfl : k = xs.length := by omega
      rw [List.take_length] at HF
      go_wp2_with fail
      go_ret
      exact ⟨_, rfl, (fun _ => ⟨hbig, HF.out⟩), HB.out⟩
  · have hbig' : (200 : Int) < (xs.length : Int) := by omega
    go_enter Try.func14, Try.ntmps14
    go_wp2_with fail
    go_ret
    exact ⟨_, rfl, (fun e => by cases e), Below.refl _ _⟩
end Go.Proofs.Ytfaafndaelmbfaa

/- the reference's Muted; near -/
import Derived.Test.YtajflljemfgkiaaEMu2
namespace Go.Proofs.Ytajflljemfgkiaa
open Go.RowKit Mut
attribute [local go_sem] Oper.semAt_some
def hitB (ms : List MuteD) (n : Int) (s : ByteArray) : Bool := match ms.find? (isNm s) with | some m => sil m n | none => false
theorem mutedB_hit (ms : List MuteD) (l : List ByteArray) (n : Int) : mutedB ms l n = l.any (hitB ms n) := by
  unfold mutedB anyS namedL
  induction l with
  | nil => rfl
  | cons s l ih =>
    rw [List.filterMap_cons, List.any_cons]
    cases h : ms.find? (isNm s) with
    | none => simp only []; rw [ih]; simp [hitB, h]
    | some m => simp only []; rw [List.any_cons, ih]; simp [hitB, h]
set_option maxRecDepth 100000 in
set_option maxHeartbeats 4000000 in
theorem rmuted_any {S T : Nat → Prop} {R : Rl} {v : Value} {ms : List MuteD} {at_ : Int} {w : World} (hr : Ro S w R) (hm : Sl T w v 10 encU ms) (hn : ms.length ≤ 100000) (hn2 : R.mutes.length ≤ 100000) :
    Calls Try.prog 30 #[rv R, v, .int .i64 at_] w (Tells (.bool (mutedB ms R.mutes at_)) w) := by
  have hb0 : Below w.heap.size w (w.alloc (.cells (rc R) 25)) := (Below.refl _ w).alloc (Nat.le_refl _) _
  have b3 := Box.new w (rc R) 25
  have hnv := hr.n
  have HR := Lib.hid (hr.m.below hb0)
  have HM := Lib.hid (hm.below hb0)
  obtain ⟨p1, c1, rfl, -, -⟩ := hm.len
  obtain ⟨nm, by0, nv, fr, ev, rp, mvv, mu, rt⟩ := R
  simp only at hn2 HR hnv
  obtain ⟨p2, c2, e2, -, -⟩ := HR.out.len
  subst e2
  obtain ⟨W0, hW0⟩ : ∃ W0, (w.alloc (.cells (rc ⟨nm, by0, nv, fr, ev, rp, .slice p2 mu.length c2, mu, rt⟩) 25)) = W0 := ⟨_, rfl⟩
  rw [hW0] at hb0 b3 HR HM
  have HW0 := Lib.hid hW0
  have HB0 := Lib.hid hb0
  have H3 := Lib.hid b3
  clear hr hm hb0 b3 hW0
  go_enter Try.func30, Try.ntmps30
  go_wp2_with fail
  rw [HW0.out]
  go_loopw [7, 8] (fun iv_ _ wr => ∃ (k : Nat), iv_ = .int .i64 k ∧ k ≤ mu.length ∧ (∀ s ∈ mu.take k, hitB ms at_ s = false) ∧ Below W0.heap.size W0 wr) (fun iv_ _ _ => mu.length - (intOf iv_).toNat)
  · exact ⟨0, rfl, by omega, (fun x hx => by simp at hx), Below.refl _ _⟩
  obtain ⟨k, rfl, hk, hf, hB⟩ := hrel
  have HF := Lib.hid hf
  have HB := Lib.hid hB
  clear hf hB
  have c3 := (H3.out.below HB.out).rd.1
  by_cases hlt : k < mu.length
  · obtain ⟨x, hx⟩ : ∃ x, mu[k]? = some x := ⟨_, List.getElem?_eq_getElem hlt⟩
    obtain ⟨ad, rfl, -, -, hrow⟩ := (HR.out.below HB.out).at hx
    have x0 := hrow k _ hx 0 _ rfl
    rw [Addr.add_zero', Nat.mul_one] at x0
    have hkk : (k : Int) < (mu.length : Int) := by omega
    have HIX := Lib.hid (rfind_any (s := x) (HM.out.below HB.out) hn)
    have HTK := Lib.hid (take_snoc' hx)
    have HX := Lib.hid (List.mem_of_getElem? hx)
    clear hx hrow
    go_wp2_with fail
    refine HIX.out.mono ?_
    rintro e w2 ⟨z, rfl, hf, hb⟩
    have HB2 := Lib.hid (HB.out.trans (hb.mono HB.out.size))
    have HL2 := Lib.hid ((HM.out.below HB.out).below hb)
    clear x0 hb HIX c3
    rcases hf with ⟨rfl, hsv⟩ | ⟨k2, x2, rfl, hx2, hsv⟩
    · have HNX : Hid (hitB ms at_ x = false) := Lib.hid (by unfold hitB; rw [hsv])
      clear hsv
      go_wp2_with fail
      refine ⟨⟨k + 1, by simp, by omega, ?_, HB2.out⟩, by simp [intOf]; omega⟩
      rw [HTK.out]
      intro y hy
      rcases List.mem_append.1 hy with hy | hy
      · exact HF.out y hy
      · obtain rfl := List.mem_singleton.1 hy
        exact HNX.out
    · have HNX : Hid (hitB ms at_ x = sil x2 at_) := Lib.hid (by unfold hitB; rw [hsv])
      obtain ⟨nm2, d0, d1, d2, d3, d4, d5, d6, f, t⟩ := x2
      obtain ⟨ad2, rfl, -, -, hrow⟩ := HL2.out.at hx2
      obtain ⟨y0, y1, y2, y3, y4, y5, y6, y7, y8, y9⟩ := cells_U hrow hx2
      simp only at y0 y1 y2 y3 y4 y5 y6 y7 y8 y9
      have hk2 : (k2 : Int) < (ms.length : Int) := by have := (List.getElem?_eq_some_iff.1 hx2).1; omega
      clear hsv hrow hx2
      go_wp2_with fail
      refine (rsilent_any ⟨nm2, d0, d1, d2, d3, d4, d5, d6, f, t⟩ at_ w2).mono ?_
      rintro e w3 ⟨rfl, hb⟩
      have HB3 := Lib.hid (HB2.out.trans (hb.mono HB2.out.size))
      obtain ⟨q, hq⟩ : ∃ q, sil ⟨nm2, d0, d1, d2, d3, d4, d5, d6, f, t⟩ at_ = q := ⟨_, rfl⟩
      rw [hq] at HNX ⊢
      clear hb hq y0 y1 y2 y3 y4 y5 y6 y7 y8 y9
      cases q with
      | true =>
        have HE : Hid (mutedB ms mu at_ = true) := Lib.hid (by rw [mutedB_hit, List.any_eq_true]; exact ⟨x, HX.out, HNX.out⟩)
        go_wp2_with fail
        go_ret
        exact ⟨by rw [HE.out]; rfl, HB0.out.trans (HB3.out.mono HB0.out.size)⟩
      | false =>
        go_wp2_with fail
        refine ⟨⟨k + 1, by simp, by omega, ?_, HB3.out⟩, by simp [intOf]; omega⟩
        rw [HTK.out]
        intro y hy
        rcases List.mem_append.1 hy with hy | hy
        · exact HF.out y hy
        · obtain rfl := List.mem_singleton.1 hy
          exact HNX.out
  · obtain rfl : k = mu.length := by omega
    rw [List.take_length] at HF
    have HE : Hid (mutedB ms mu at_ = false) := Lib.hid (by
      rw [mutedB_hit, List.any_eq_false]
      intro y hy
      rw [HF.out y hy]
      simp)
    go_wp2_with fail
    go_ret
    exact ⟨by rw [HE.out]; rfl, HB0.out.trans (HB.out.mono HB0.out.size)⟩
def NearP (R : Rl) (l : List Al) (at_ : Int) : Prop := (∀ x ∈ l, -2305843009213693952 ≤ x.told ∧ x.told ≤ 2305843009213693952) ∧ -2305843009213693952 ≤ at_ ∧ at_ ≤ 2305843009213693952 ∧ -2305843009213693952 ≤ R.rep ∧ R.rep ≤ 2305843009213693952
def NearTo (R : Rl) (l : List Al) (at_ : Int) (w : World) (e : Ending) (w' : World) : Prop := ∃ b, e = .returned (.bool b) ∧ (b = true → NearP R l at_) ∧ Below w.heap.size w w'
set_option maxRecDepth 100000 in
set_option maxHeartbeats 4000000 in
theorem near_any {S : Nat → Prop} {R : Rl} {v : Value} {l : List Al} {at_ : Int} {w : World} (h : Sl S w v 5 encA l) (hn : l.length ≤ 100000) (hnv : R.nodes.oneCell' = true) (hmv : R.mv.oneCell' = true) :
    Calls Try.prog 19 #[rv R, v, .int .i64 at_] w (NearTo R l at_ w) := by
  have hb0 : Below w.heap.size w (w.alloc (.cells (rc R) 25)) := (Below.refl _ w).alloc (Nat.le_refl _) _
  have b3 := Box.new w (rc R) 25
  have HL := Lib.hid (h.below hb0)
  obtain ⟨p1, c1, rfl, -, -⟩ := h.len
  obtain ⟨nm, by0, nv, fr, ev, rp, mvv, mu, rt⟩ := R
  simp only at hnv hmv
  obtain ⟨W0, hW0⟩ : ∃ W0, (w.alloc (.cells (rc ⟨nm, by0, nv, fr, ev, rp, mvv, mu, rt⟩) 25)) = W0 := ⟨_, rfl⟩
  rw [hW0] at hb0 b3 HL
  have HW0 := Lib.hid hW0
  have HB0 := Lib.hid hb0
  have c3 := b3.rd.1
  clear h hb0 b3 hW0
  go_enter Try.func19, Try.ntmps19
  go_wp2_with fail
  rw [HW0.out]
  go_loopw [7] (fun iv_ wr => ∃ (k : Nat), iv_ = .int .i64 k ∧ k ≤ l.length ∧ (∀ x ∈ l.take k, -2305843009213693952 ≤ x.told ∧ x.told ≤ 2305843009213693952) ∧ W0 = wr) (fun iv_ _ => l.length - (intOf iv_).toNat)
  · exact ⟨0, rfl, by omega, (fun x hx => by simp at hx), rfl⟩
  obtain ⟨k, rfl, hk, hf, rfl⟩ := hrel
  have HF := Lib.hid hf
  clear hf
  by_cases hlt : k < l.length
  · obtain ⟨⟨r, by_, st, si, t⟩, hx⟩ : ∃ x, l[k]? = some x := ⟨_, List.getElem?_eq_getElem hlt⟩
    obtain ⟨ad, rfl, -, -, hrow⟩ := HL.out.at hx
    obtain ⟨x0, x1, x2, x3, x4⟩ := cells_A hrow hx
    simp only at x0 x1 x2 x3 x4
    have hkk : (k : Int) < (l.length : Int) := by omega
    have HTK := Lib.hid (take_snoc' hx)
    clear hx hrow
    by_cases h1 : t < -2305843009213693952
    · have d1 : decide (t < -2305843009213693952) = true := by simpa using h1
      clear h1
      go_wp2_with fail
      go_ret
      exact ⟨_, rfl, (fun h => by simp at h), HB0.out⟩
    · have d1 : decide (t < -2305843009213693952) = false := by simpa using h1
      have HD1 := Lib.hid h1
      clear h1
      by_cases h2 : 2305843009213693952 < t
      · have d2 : decide (2305843009213693952 < t) = true := by simpa using h2
        clear h2
        go_wp2_with fail
        go_ret
        exact ⟨_, rfl, (fun h => by simp at h), HB0.out⟩
      · have d2 : decide (2305843009213693952 < t) = false := by simpa using h2
        have HD2 := Lib.hid h2
        clear h2
        go_wp2_with fail
        refine ⟨⟨k + 1, by simp, by omega, ?_, trivial⟩, by simp [intOf]; omega⟩
        rw [HTK.out]
        intro y hy
        rcases List.mem_append.1 hy with hy | hy
        · exact HF.out y hy
        · obtain rfl := List.mem_singleton.1 hy
          have q1 := HD1.out
          have q2 := HD2.out
          exact ⟨by simp only; omega, by simp only; omega⟩
  · obtain rfl : k = l.length := by omega
    rw [List.take_length] at HF
    obtain ⟨q1, e1⟩ : ∃ q, decide (-2305843009213693952 ≤ at_) = q := ⟨_, rfl⟩
    obtain ⟨q2, e2⟩ : ∃ q, decide (at_ ≤ 2305843009213693952) = q := ⟨_, rfl⟩
    obtain ⟨q3, e3⟩ : ∃ q, decide (-2305843009213693952 ≤ rp) = q := ⟨_, rfl⟩
    obtain ⟨q4, e4⟩ : ∃ q, decide (rp ≤ 2305843009213693952) = q := ⟨_, rfl⟩
    have HN : Hid (q1 = true → q2 = true → q3 = true → q4 = true → NearP ⟨nm, by0, nv, fr, ev, rp, mvv, mu, rt⟩ l at_) := Lib.hid (by
      rintro rfl rfl rfl rfl
      exact ⟨HF.out, of_decide_eq_true e1, of_decide_eq_true e2, of_decide_eq_true e3, of_decide_eq_true e4⟩)
    cases q1 with
    | false =>
      go_wp2_with fail
      go_ret
      exact ⟨_, rfl, (fun h => by simp at h), HB0.out⟩
    | true =>
      cases q2 with
      | false =>
        go_wp2_with fail
        go_ret
        exact ⟨_, rfl, (fun h => by simp at h), HB0.out⟩
      | true =>
        cases q3 with
        | false =>
          go_wp2_with fail
          go_ret
          exact ⟨_, rfl, (fun h => by simp at h), HB0.out⟩
        | true =>
          cases q4 with
          | false =>
            go_wp2_with fail
            go_ret
            exact ⟨_, rfl, (fun h => by simp at h), HB0.out⟩
          | true =>
            go_wp2_with fail
            go_ret
            exact ⟨_, rfl, (fun _ => by have := HN.out; simpa using this), HB0.out⟩
end Go.Proofs.Ytajflljemfgkiaa

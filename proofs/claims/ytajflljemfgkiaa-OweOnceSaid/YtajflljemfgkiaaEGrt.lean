/- great: what is gone through -/
import Derived.Test.YtajflljemfgkiaaERMs
import Derived.Test.YtajflljemfgkiaaMAny
namespace Go.Proofs.Ytajflljemfgkiaa
open Go.RowKit Mut
attribute [local go_sem] Oper.semAt_some

abbrev encU (m : MuteD) : List Value := [.string m.nm, .bool m.d0, .bool m.d1, .bool m.d2, .bool m.d3, .bool m.d4, .bool m.d5, .bool m.d6, .int .i64 m.f, .int .i64 m.t]
theorem encU_len (m : MuteD) : (encU m).length = 10 := rfl
/-- a rule's lists -/
structure Ro (S : Nat → Prop) (W : World) (R : Rl) : Prop where
  m : Sl S W R.mv 1 encS R.mutes
  n : R.nodes.oneCell' = true
def GreatTo (R : Rl) (ms : List MuteD) (l : List Al) (keys : List ByteArray) (w : World) (e : Ending) (w' : World) : Prop := ∃ bg, e = .returned (.bool bg) ∧ (bg = false → (l.length ≤ 200 ∧ keys.length ≤ 200 ∧ ms.length ≤ 50 ∧ R.mutes.length ≤ 50) ∧ (∀ x ∈ l, x.by_.size ≤ 5000) ∧ (∀ s ∈ keys, s.size ≤ 5000) ∧ (∀ m ∈ ms, m.nm.size ≤ 5000) ∧ ∀ s ∈ R.mutes, s.size ≤ 5000) ∧ Below w.heap.size w w'
theorem all_snoc {α : Type} {l : List α} {k : Nat} {x : α} {P : α → Prop} (h : ∀ y ∈ l.take k, P y) (hx : l[k]? = some x) (hp : P x) : ∀ y ∈ l.take (k + 1), P y := by
  intro y hy
  rw [take_snoc' hx] at hy
  rcases List.mem_append.1 hy with hy | hy
  · exact h y hy
  · obtain rfl := List.mem_singleton.1 hy
    exact hp
set_option maxRecDepth 100000 in
set_option maxHeartbeats 4000000 in
theorem great_any {S1 S2 S3 S4 : Nat → Prop} {R : Rl} {v2 v3 v4 : Value} {ms : List MuteD} {l : List Al} {keys : List ByteArray} {w : World} (hr : Ro S1 w R) (h2 : Sl S2 w v2 10 encU ms) (h3 : Sl S3 w v3 5 encA l) (h4 : Sl S4 w v4 1 encS keys) :
    Calls Try.prog 10 #[rv R, v2, v3, v4] w (GreatTo R ms l keys w) := by
  have hb0 : Below w.heap.size w (w.alloc (.cells (rc R) 25)) := (Below.refl _ w).alloc (Nat.le_refl _) _
  have b4 := Box.new w (rc R) 25
  have HR := Lib.hid (hr.m.below hb0)
  have H2 := Lib.hid (h2.below hb0)
  have H3 := Lib.hid (h3.below hb0)
  have H4 := Lib.hid (h4.below hb0)
  have HB0 := Lib.hid hb0
  obtain ⟨p2, c2, rfl, -, -⟩ := h2.len
  obtain ⟨p3, c3, rfl, -, -⟩ := h3.len
  obtain ⟨p4, c4, rfl, -, -⟩ := h4.len
  obtain ⟨p5, c5, e5, -, -⟩ := hr.m.len
  obtain ⟨nm, by0, nv, fr, ev, rp, mvv, mu, rt⟩ := R
  simp only at e5
  subst e5
  have HX := Lib.hid b4
  clear hr h2 h3 h4 hb0 b4
  obtain ⟨W0, hW0⟩ : ∃ W0, (w.alloc (.cells (rc ⟨nm, by0, nv, fr, ev, rp, .slice p5 mu.length c5, mu, rt⟩) 25)) = W0 := ⟨_, rfl⟩
  rw [hW0] at HR H2 H3 H4 HB0 HX
  have HW0 := Lib.hid hW0
  obtain ⟨cx, zx⟩ := HX.out.rd
  have hxl := HX.out.lt
  clear hW0
  by_cases g : l.length ≤ 200 ∧ keys.length ≤ 200 ∧ ms.length ≤ 50 ∧ mu.length ≤ 50
  · obtain ⟨g1, g2, g3, g4⟩ := g
    have g1' : ¬ (200 : Int) < (l.length : Int) := by omega
    have g2' : ¬ (200 : Int) < (keys.length : Int) := by omega
    have g3' : ¬ (50 : Int) < (ms.length : Int) := by omega
    have g4' : ¬ (50 : Int) < (mu.length : Int) := by omega
    go_enter Try.func10, Try.ntmps10
    go_upto_region 1 with fail
    rw [HW0.out]
    go_wp2_with fail
    clear g1' g2' g3' g4'
    go_loopw [9, 10] (fun n_ iv_ wr => ∃ (k : Nat) (n : Int), iv_ = .int .i64 k ∧ n_ = .int .i64 n ∧ 0 ≤ n ∧ n ≤ 5000 ∧ k ≤ l.length ∧ (∀ x ∈ l.take k, x.by_.size ≤ 5000) ∧ W0 = wr) (fun _ iv_ _ => l.length - (intOf iv_).toNat)
    · exact ⟨0, _, rfl, rfl, by omega, by omega, by omega, (fun x hx => by simp at hx), rfl⟩
    obtain ⟨k, n, rfl, rfl, hn0, hn1, hk, hF, rfl⟩ := hrel
    have HF := Lib.hid hF
    clear hF
    by_cases hlt : k < l.length
    · obtain ⟨⟨r, by_, st, si, t⟩, hx⟩ : ∃ x, l[k]? = some x := ⟨_, List.getElem?_eq_getElem hlt⟩
      obtain ⟨ad, rfl, -, -, hrow⟩ := H3.out.at hx
      have x1 : W0.cell? ⟨(ad.add (k * 5)).block, (ad.add (k * 5)).off + 1, none⟩ = some (.string by_) := hrow k _ hx 1 _ rfl
      have hkk : (k : Int) < (l.length : Int) := by omega
      have HX1 := Lib.hid hx
      clear hrow hx
      by_cases hsz : (by_.size : Int) ≤ n
      · have hsz' : ¬ n < (by_.size : Int) := by omega
        have HS := Lib.hid (all_snoc (P := fun x => x.by_.size ≤ 5000) HF.out HX1.out (by show by_.size ≤ 5000; omega))
        go_wp2_with fail
        exact ⟨⟨k + 1, _, by simp, rfl, by omega, by omega, by omega, HS.out, trivial⟩, by simp [intOf]; omega⟩
      · have hsz' : n < (by_.size : Int) := by omega
        go_wp2_with fail
        go_ret
        exact ⟨true, rfl, (fun e => by cases e), HB0.out⟩
    · obtain rfl : k = l.length := by omega
      rw [List.take_length] at HF
      have HF1 := Lib.hid HF.out
      clear HF hlt hk
      go_wp2_with fail
      go_loopw [9, 11] (fun n_ iv_ wr => ∃ (k : Nat) (n : Int), iv_ = .int .i64 k ∧ n_ = .int .i64 n ∧ 0 ≤ n ∧ n ≤ 5000 ∧ k ≤ keys.length ∧ (∀ x ∈ keys.take k, x.size ≤ 5000) ∧ W0 = wr) (fun _ iv_ _ => keys.length - (intOf iv_).toNat)
      · exact ⟨0, _, rfl, rfl, by omega, by omega, by omega, (fun x hx => by simp at hx), rfl⟩
      obtain ⟨k, n, rfl, rfl, hn0, hn1, hk, hF, rfl⟩ := hrel
      have HF := Lib.hid hF
      clear hF
      by_cases hlt : k < keys.length
      · obtain ⟨x, hx⟩ : ∃ x, keys[k]? = some x := ⟨_, List.getElem?_eq_getElem hlt⟩
        obtain ⟨ad, rfl, -, -, hrow⟩ := H4.out.at hx
        have x0 := hrow k _ hx 0 _ rfl
        rw [Addr.add_zero', Nat.mul_one] at x0
        have hkk : (k : Int) < (keys.length : Int) := by omega
        have HX1 := Lib.hid hx
        clear hrow hx
        by_cases hsz : (x.size : Int) ≤ n
        · have hsz' : ¬ n < (x.size : Int) := by omega
          have HS := Lib.hid (all_snoc (P := fun x => x.size ≤ 5000) HF.out HX1.out (by show x.size ≤ 5000; omega))
          go_wp2_with fail
          exact ⟨⟨k + 1, _, by simp, rfl, by omega, by omega, by omega, HS.out, trivial⟩, by simp [intOf]; omega⟩
        · have hsz' : n < (x.size : Int) := by omega
          go_wp2_with fail
          go_ret
          exact ⟨true, rfl, (fun e => by cases e), HB0.out⟩
      · obtain rfl : k = keys.length := by omega
        rw [List.take_length] at HF
        have HF2 := Lib.hid HF.out
        clear HF hlt hk
        go_wp2_with fail
        go_loopw [9, 12] (fun n_ iv_ wr => ∃ (k : Nat) (n : Int), iv_ = .int .i64 k ∧ n_ = .int .i64 n ∧ 0 ≤ n ∧ n ≤ 5000 ∧ k ≤ ms.length ∧ (∀ x ∈ ms.take k, x.nm.size ≤ 5000) ∧ W0 = wr) (fun _ iv_ _ => ms.length - (intOf iv_).toNat)
        · exact ⟨0, _, rfl, rfl, by omega, by omega, by omega, (fun x hx => by simp at hx), rfl⟩
        obtain ⟨k, n, rfl, rfl, hn0, hn1, hk, hF, rfl⟩ := hrel
        have HF := Lib.hid hF
        clear hF
        by_cases hlt : k < ms.length
        · obtain ⟨⟨mn, b0, b1, b2, b3, b4, b5, b6, mf, mt⟩, hx⟩ : ∃ x, ms[k]? = some x := ⟨_, List.getElem?_eq_getElem hlt⟩
          obtain ⟨ad, rfl, -, -, hrow⟩ := H2.out.at hx
          have x0 := hrow k _ hx 0 _ rfl
          rw [Addr.add_zero'] at x0
          have hkk : (k : Int) < (ms.length : Int) := by omega
          have HX1 := Lib.hid hx
          clear hrow hx
          by_cases hsz : (mn.size : Int) ≤ n
          · have hsz' : ¬ n < (mn.size : Int) := by omega
            have HS := Lib.hid (all_snoc (P := fun x => x.nm.size ≤ 5000) HF.out HX1.out (by show mn.size ≤ 5000; omega))
            go_wp2_with fail
            exact ⟨⟨k + 1, _, by simp, rfl, by omega, by omega, by omega, HS.out, trivial⟩, by simp [intOf]; omega⟩
          · have hsz' : n < (mn.size : Int) := by omega
            go_wp2_with fail
            go_ret
            exact ⟨true, rfl, (fun e => by cases e), HB0.out⟩
        · obtain rfl : k = ms.length := by omega
          rw [List.take_length] at HF
          have HF3 := Lib.hid HF.out
          clear HF hlt hk
          go_wp2_with fail
          go_loopw [9, 13] (fun n_ iv_ wr => ∃ (k : Nat) (n : Int), iv_ = .int .i64 k ∧ n_ = .int .i64 n ∧ 0 ≤ n ∧ n ≤ 5000 ∧ k ≤ mu.length ∧ (∀ x ∈ mu.take k, x.size ≤ 5000) ∧ W0 = wr) (fun _ iv_ _ => mu.length - (intOf iv_).toNat)
          · exact ⟨0, _, rfl, rfl, by omega, by omega, by omega, (fun x hx => by simp at hx), rfl⟩
          obtain ⟨k, n, rfl, rfl, hn0, hn1, hk, hF, rfl⟩ := hrel
          have HF := Lib.hid hF
          clear hF
          by_cases hlt : k < mu.length
          · obtain ⟨x, hx⟩ : ∃ x, mu[k]? = some x := ⟨_, List.getElem?_eq_getElem hlt⟩
            obtain ⟨ad, rfl, -, -, hrow⟩ := HR.out.at hx
            have x0 := hrow k _ hx 0 _ rfl
            rw [Addr.add_zero', Nat.mul_one] at x0
            have hkk : (k : Int) < (mu.length : Int) := by omega
            have HX1 := Lib.hid hx
            clear hrow hx
            by_cases hsz : (x.size : Int) ≤ n
            · have hsz' : ¬ n < (x.size : Int) := by omega
              have HS := Lib.hid (all_snoc (P := fun x => x.size ≤ 5000) HF.out HX1.out (by show x.size ≤ 5000; omega))
              go_wp2_with fail
              exact ⟨⟨k + 1, _, by simp, rfl, by omega, by omega, by omega, HS.out, trivial⟩, by simp [intOf]; omega⟩
            · have hsz' : n < (x.size : Int) := by omega
              go_wp2_with fail
              go_ret
              exact ⟨true, rfl, (fun e => by cases e), HB0.out⟩
          · obtain rfl : k = mu.length := by omega
            rw [List.take_length] at HF
            have HF4 := Lib.hid HF.out
            clear HF hlt hk
            go_wp2_with fail
            go_ret
            exact ⟨false, rfl, (fun _ => ⟨⟨g1, g2, g3, g4⟩, HF1.out, HF2.out, HF3.out, HF4.out⟩), HB0.out⟩
  · have hG : ∀ w', Below w.heap.size w w' → GreatTo ⟨nm, by0, nv, fr, ev, rp, .slice p5 mu.length c5, mu, rt⟩ ms l keys w (.returned (.bool true)) w' := fun w' hb => ⟨true, rfl, (fun e => by cases e), hb⟩
    have HG := Lib.hid hG
    clear hG
    by_cases g1 : l.length ≤ 200
    · have g1' : ¬ (200 : Int) < (l.length : Int) := by omega
      by_cases g2 : keys.length ≤ 200
      · have g2' : ¬ (200 : Int) < (keys.length : Int) := by omega
        by_cases g3 : ms.length ≤ 50
        · have g3' : ¬ (50 : Int) < (ms.length : Int) := by omega
          have g4' : (50 : Int) < (mu.length : Int) := by omega
          clear g
          go_enter Try.func10, Try.ntmps10
          go_upto_region 1 with fail
          rw [HW0.out]
          go_wp2_with fail
          go_ret
          exact HG.out _ HB0.out
        · have g3' : (50 : Int) < (ms.length : Int) := by omega
          clear g
          go_enter Try.func10, Try.ntmps10
          go_upto_region 1 with fail
          rw [HW0.out]
          go_wp2_with fail
          go_ret
          exact HG.out _ HB0.out
      · have g2' : (200 : Int) < (keys.length : Int) := by omega
        clear g
        go_enter Try.func10, Try.ntmps10
        go_upto_region 1 with fail
        rw [HW0.out]
        go_wp2_with fail
        go_ret
        exact HG.out _ HB0.out
    · have g1' : (200 : Int) < (l.length : Int) := by omega
      clear g
      go_enter Try.func10, Try.ntmps10
      go_upto_region 1 with fail
      rw [HW0.out]
      go_wp2_with fail
      go_ret
      exact HG.out _ HB0.out
end Go.Proofs.Ytajflljemfgkiaa

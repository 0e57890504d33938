/- the reference's Next -/
import Derived.Test.YtkpkeachhkbbkaaMutC
namespace Go.Proofs.Ytkpkeachhkbbkaa
open Go.RowKit Go.Shelf Mut

/-- a returned number, and nothing that was there has turned: behind a name -/
def TellsI (v : Int) (w : World) (e : Ending) (w' : World) : Prop := e = .returned (.int .i64 v) ∧ Below w.heap.size w w'

set_option maxRecDepth 100000 in
set_option maxHeartbeats 2000000 in
theorem rnext_any (m : MuteD) (n : Int) (w : World) :
    Calls Try.prog 15 #[.agg #[.string m.nm, .bool m.d0, .bool m.d1, .bool m.d2, .bool m.d3, .bool m.d4, .bool m.d5, .bool m.d6, .int .i64 m.f, .int .i64 m.t], .int .i64 n] w (TellsI (nxt m n) w) := by
  by_cases g1 : n < 0
  · have e : nxt m n = -1 := by unfold nxt; rw [if_neg (by omega)]
    rw [e]; clear e
    go_enter Try.func15, Try.ntmps15
    go_wp2
    go_ret
    exact ⟨rfl, (Below.refl _ _).alloc (Nat.le_refl _) _⟩
  by_cases g2 : 1099511627776 < n
  · have e : nxt m n = -1 := by unfold nxt; rw [if_neg (by omega)]
    rw [e]; clear e
    go_enter Try.func15, Try.ntmps15
    go_wp2
    go_ret
    exact ⟨rfl, (Below.refl _ _).alloc (Nat.le_refl _) _⟩
  have h0 : 0 ≤ n := by omega
  have h1 : n ≤ 1099511627776 := by omega
  have e : nxt m n = scan m n 12960 (n + 1) := by unfold nxt; rw [if_pos ⟨h0, h1⟩]
  obtain ⟨v, hv⟩ : ∃ v, nxt m n = v := ⟨_, rfl⟩
  rw [hv]
  rw [hv] at e
  have HE := Lib.hid e
  clear e hv g1 g2
  obtain ⟨now, hnow⟩ : ∃ b, sil m n = b := ⟨_, rfl⟩
  have KS : Hid (∀ w, Calls Try.prog 11 #[.agg #[.string m.nm, .bool m.d0, .bool m.d1, .bool m.d2, .bool m.d3, .bool m.d4, .bool m.d5, .bool m.d6, .int .i64 m.f, .int .i64 m.t], .int .i64 n] w (TellsB now w)) := Lib.hid (fun w => by have := rsilent_any m n w; rw [hnow] at this; exact this)
  have HNOW := Lib.hid hnow
  clear hnow
  go_enter Try.func15, Try.ntmps15
  go_wp2_with fail
  refine (KS.out _).mono ?_
  rintro e w1 ⟨rfl, hb1⟩
  have hB : Below w.heap.size w w1 := ((Below.refl _ w).alloc (Nat.le_refl _) _).trans (hb1.mono (by simp))
  have hm : w1.heap[w.heap.size]? = some (.cells #[.string m.nm, .bool m.d0, .bool m.d1, .bool m.d2, .bool m.d3, .bool m.d4, .bool m.d5, .bool m.d6, .int .i64 m.f, .int .i64 m.t] 26 (0, 0)) := (hb1.block _ (by simp)).trans (World.alloc_heap_new w _)
  clear hb1 KS
  go_wp2_with fail
  go_loopw [6] (fun a wr => ∃ x : Int, a = .int .i64 x ∧ n + 1 ≤ x ∧ x ≤ n + 12961 ∧ Hid (v = scan m n (n + 12961 - x).toNat x) ∧ Below w.heap.size w wr ∧ Hid (wr.heap[w.heap.size]? = some (.cells #[.string m.nm, .bool m.d0, .bool m.d1, .bool m.d2, .bool m.d3, .bool m.d4, .bool m.d5, .bool m.d6, .int .i64 m.f, .int .i64 m.t] 26 (0, 0)))) (fun a wr => (n + 12961 - intOf a).toNat)
  case atStart => exact ⟨_, rfl, by omega, by omega, by show _ = _; rw [HE.out, show (n + 12961 - (n + 1)).toNat = 12960 from by omega], hB, hm⟩
  case round =>
    clear hB hm HE
    obtain ⟨x, rfl, hx1, hx2, HV, hB, HM⟩ := hrel
    by_cases hend : x ≤ n + 12960
    · obtain ⟨k, hk⟩ : ∃ k, (n + 12961 - x).toNat = k + 1 := ⟨(n + 12961 - x).toNat - 1, by omega⟩
      have hk' : (n + 12961 - (x + 1)).toNat = k := by omega
      have hv := HV.out
      rw [hk] at hv
      unfold scan at hv
      by_cases hmax : x ≤ 1099511627776
      · rw [if_pos hmax] at hv
        obtain ⟨c0, c1, c2, c3, c4, c5, c6, c7, c8, c9⟩ := mute_cells HM.out
        have hlt : w.heap.size < wr.heap.size := (Array.getElem?_eq_some_iff.1 HM.out).1
        obtain ⟨sx, hsx⟩ : ∃ b, sil m x = b := ⟨_, rfl⟩
        have KS : Hid (∀ w, Calls Try.prog 11 #[.agg #[.string m.nm, .bool m.d0, .bool m.d1, .bool m.d2, .bool m.d3, .bool m.d4, .bool m.d5, .bool m.d6, .int .i64 m.f, .int .i64 m.t], .int .i64 x] w (TellsB sx w)) := Lib.hid (fun w => by have := rsilent_any m x w; rw [hsx] at this; exact this)
        rw [hsx, HNOW.out] at hv
        clear hsx
        by_cases heq : sx = now
        · subst heq
          rw [if_pos rfl] at hv
          have HV2 := Lib.hid hv
          have HK := Lib.hid hk'
          clear hv hk hk' HV
          go_wp2_with fail
          refine (KS.out _).mono ?_
          rintro e w2 ⟨rfl, hb2⟩
          have hB2 : Below w.heap.size w w2 := hB.trans (hb2.mono hB.size)
          have hM2 : Hid (w2.heap[w.heap.size]? = some (.cells #[.string m.nm, .bool m.d0, .bool m.d1, .bool m.d2, .bool m.d3, .bool m.d4, .bool m.d5, .bool m.d6, .int .i64 m.f, .int .i64 m.t] 26 (0, 0))) := (hb2.block _ hlt).trans HM.out
          clear hb2 hB c0 c1 c2 c3 c4 c5 c6 c7 c8 c9 KS
          go_wp2_with fail
          go_roundw
          case rel => exact ⟨_, rfl, by omega, by omega, by show _ = _; rw [HK.out]; exact HV2.out, hB2, hM2⟩
          case measure => simp [intOf]; omega
        · rw [if_neg heq] at hv
          have HX := Lib.hid hv
          clear hk hk' HV hv HNOW
          cases sx <;> cases now
          · exact absurd rfl heq
          · clear heq
            go_wp2_with fail
            refine (KS.out _).mono ?_
            rintro e w2 ⟨rfl, hb2⟩
            have hB2 : Below w.heap.size w w2 := hB.trans (hb2.mono hB.size)
            clear hb2 hB c0 c1 c2 c3 c4 c5 c6 c7 c8 c9 KS
            go_wp2_with fail
            go_ret
            exact ⟨by rw [HX.out]; rfl, hB2⟩
          · clear heq
            go_wp2_with fail
            refine (KS.out _).mono ?_
            rintro e w2 ⟨rfl, hb2⟩
            have hB2 : Below w.heap.size w w2 := hB.trans (hb2.mono hB.size)
            clear hb2 hB c0 c1 c2 c3 c4 c5 c6 c7 c8 c9 KS
            go_wp2_with fail
            go_ret
            exact ⟨by rw [HX.out]; rfl, hB2⟩
          · exact absurd rfl heq
      · rw [if_neg hmax] at hv
        subst hv
        clear hk hk' HV
        go_wp2_with fail
        go_ret
        exact ⟨rfl, hB⟩
    · have hv := HV.out
      rw [show (n + 12961 - x).toNat = 0 from by omega] at hv
      have hv : v = -1 := hv
      subst hv
      have hend' : n + 12960 < x := by omega
      clear hend HV
      go_wp2_with fail
      go_ret
      exact ⟨rfl, hB⟩

end Go.Proofs.Ytkpkeachhkbbkaa

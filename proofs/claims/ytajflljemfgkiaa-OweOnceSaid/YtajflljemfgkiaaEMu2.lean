/- owe.muted and the reference's Muted -/
import Derived.Test.YtajflljemfgkiaaEMut
import Derived.Test.YtajflljemfgkiaaMutC
namespace Go.Proofs.Ytajflljemfgkiaa
open Go.RowKit Mut
attribute [local go_sem] Oper.semAt_some
theorem info_mute : (Try.prog.info? 46).map (fun i => (i.zero, i.size, i.bytes)) = some (some (.agg #[.string ⟨#[]⟩, .bool false, .bool false, .bool false, .bool false, .bool false, .bool false, .bool false, .int .i64 0, .int .i64 0]), 10, 40) := by kernel_rfl
theorem namedL_snoc (ms : List MuteD) (l : List ByteArray) (s : ByteArray) : namedL ms (l ++ [s]) = namedL ms l ++ (match ms.find? (isNm s) with | some m => [m] | none => []) := by
  unfold namedL
  rw [List.filterMap_append]
  congr 1
  cases h : ms.find? (isNm s) <;> simp [h]
theorem namedL_le (ms : List MuteD) (l : List ByteArray) : (namedL ms l).length ≤ l.length := List.length_filterMap_le _ _
set_option maxRecDepth 100000 in
set_option maxHeartbeats 4000000 in
theorem muted_any {S T : Nat → Prop} {R : Rl} {v : Value} {ms : List MuteD} {at_ : Int} {w : World} (hr : Ro S w R) (hm : Sl T w v 10 encU ms) (hn : ms.length ≤ 100000) (hn2 : R.mutes.length ≤ 100000) :
    Calls Try.prog 31 #[rv R, v, .int .i64 at_] w (Tells (.bool (mutedB ms R.mutes at_)) w) := by
  have hb0 : Below w.heap.size w (w.alloc (.cells (rc R) 25)) := (Below.refl _ w).alloc (Nat.le_refl _) _
  have b3 := Box.new w (rc R) 25
  have hnv := hr.n
  have HR := Lib.hid (hr.m.below hb0)
  have HM := Lib.hid (hm.below hb0)
  obtain ⟨p1, c1, rfl, -, -⟩ := hm.len
  obtain ⟨nm, by0, nv, fr, ev, rp, mvv, mu, rt⟩ := R
  simp only at hn2 HR hnv
  obtain ⟨p2, c2, e2, -, -⟩ := HR.out.len
  subst e2
  obtain ⟨W0, hW0⟩ : ∃ W0, (w.alloc (.cells (rc ⟨nm, by0, nv, fr, ev, rp, .slice p2 mu.length c2, mu, rt⟩) 25)) = W0 := ⟨_, rfl⟩
  rw [hW0] at hb0 b3 HR HM
  have HW0 := Lib.hid hW0
  have HB0 := Lib.hid hb0
  have c3 := b3.rd.1
  obtain ⟨i0, hi, hi0, hi1, hi2⟩ := info_parts info_mute
  have HI := Lib.hid hi
  have HI0 := Lib.hid hi0
  have HI1 := Lib.hid hi1
  have HI2 := Lib.hid hi2
  clear hr hm hb0 b3 hW0 hi hi0 hi1 hi2
  go_enter Try.func31, Try.ntmps31
  go_wp2_with fail
  rw [HW0.out]
  go_wp2_with fail
  go_loopw [7, 9, 10, 14] (fun nv_ _ _ iv_ wr => ∃ (k : Nat) (q : Option Addr) (zs : List MuteD) (d : Nat), nv_ = .slice q zs.length d ∧ iv_ = .int .i64 k ∧ k ≤ mu.length ∧ zs = namedL ms (mu.take k) ∧ wr.ownsRow W0.heap.size 46 10 (.slice q zs.length d) zs.length (zs.flatMap encU) ∧ Below W0.heap.size W0 wr) (fun _ _ _ iv_ _ => mu.length - (intOf iv_).toNat)
  · exact ⟨0, none, [], 0, rfl, rfl, by omega, by simp [namedL], World.ownsRow_nil _ _ _ _, Below.refl _ _⟩
  obtain ⟨k, q, zs, d, rfl, rfl, hk, hz, how, hB⟩ := hrel
  have hzk := namedL_le ms (mu.take k)
  rw [← hz, List.length_take] at hzk
  have HZ := Lib.hid hz
  have HOW := Lib.hid how
  have HB := Lib.hid hB
  clear hz how hB c3
  by_cases hlt : k < mu.length
  · obtain ⟨x, hx⟩ : ∃ x, mu[k]? = some x := ⟨_, List.getElem?_eq_getElem hlt⟩
    obtain ⟨ad, rfl, -, -, hrow⟩ := (HR.out.below HB.out).at hx
    have x0 := hrow k _ hx 0 _ rfl
    rw [Addr.add_zero', Nat.mul_one] at x0
    have hkk : (k : Int) < (mu.length : Int) := by omega
    have hb1 : Below wr.heap.size wr (wr.alloc (.cells #[.string x] 9)) := (Below.refl _ wr).alloc (Nat.le_refl _) _
    have HIX := Lib.hid (idxU_any ((HM.out.below HB.out).below hb1) hn (Box.new wr #[.string x] 9))
    have HSN := Lib.hid (namedL_snoc ms (mu.take k) x)
    have HTK := Lib.hid (take_snoc' hx)
    have HB1 := Lib.hid hb1
    clear hx hrow hb1
    go_wp2_with fail
    refine HIX.out.mono ?_
    rintro e w2 ⟨z, rfl, hf, hb⟩
    have hb2 := below_then HB1.out hb
    have HB2 := Lib.hid (HB.out.trans (hb2.mono HB.out.size))
    have HOW2 := Lib.hid (owns_keep HOW.out (fun b e => hb2.block b (HOW.out.lt b e).2))
    have HL2 := Lib.hid ((HM.out.below HB.out).below hb2)
    clear x0 hb hb2 HIX
    rcases hf with ⟨rfl, hsv⟩ | ⟨k2, x2, rfl, hx2, hsv⟩
    · have HNX : Hid (namedL ms (mu.take (k + 1)) = zs) := Lib.hid (by rw [HTK.out, HSN.out, hsv, HZ.out]; simp)
      clear hsv
      go_wp2_with fail
      exact ⟨⟨k + 1, q, zs, d, rfl, by simp, by omega, HNX.out.symm, HOW2.out, HB2.out⟩, by simp [intOf]; omega⟩
    · have HNX : Hid (namedL ms (mu.take (k + 1)) = zs ++ [x2]) := Lib.hid (by rw [HTK.out, HSN.out, hsv, HZ.out])
      obtain ⟨nm2, d0, d1, d2, d3, d4, d5, d6, f, t⟩ := x2
      obtain ⟨ad2, rfl, -, -, hrow⟩ := HL2.out.at hx2
      obtain ⟨y0, y1, y2, y3, y4, y5, y6, y7, y8, y9⟩ := cells_U hrow hx2
      simp only at y0 y1 y2 y3 y4 y5 y6 y7 y8 y9
      have hk2 : (k2 : Int) < (ms.length : Int) := by have := (List.getElem?_eq_some_iff.1 hx2).1; omega
      clear hsv hrow hx2
      go_wp2_with (at_builtin; refine wpList_append_sl encU_len rfl (.tmp 23) (.tmp 28) 41 rfl W0.heap.size 46 i0 _ 40 Try.underlying41 HI.out HI0.out HI1.out HI2.out rfl (by decide) (v := .slice q zs.length d) (xs := zs) (ys := [⟨nm2, d0, d1, d2, d3, d4, d5, d6, f, t⟩]) (by rfl) (by rfl) (owns_keep HOW2.out (fun b e => Below.heap_alloc _ _ _ (HOW2.out.lt b e).2)) (Sl.one (S := fun _ => True) encU_len (Box.new _ _ _) rfl trivial) (fun y _ u hu => encU_one y u hu) (by simp only [List.length_cons, List.length_nil]; unfold maxLen; omega) (by simp only [List.length_cons, List.length_nil]; omega) (by have := HB2.out.size; rw [World.size_alloc]; omega) ?_; intro v5 w5 hown5 hk5 hat5; obtain ⟨q5, dz, rfl⟩ := owns_slice hown5)
      have hk6 := Kept.first ((Below.refl _ w2).alloc (Nat.le_refl _) _) hk5
      refine ⟨⟨k + 1, q5, zs ++ [⟨nm2, d0, d1, d2, d3, d4, d5, d6, f, t⟩], dz, by simp, by simp, by omega, HNX.out.symm, hown5, HB2.out.trans (hk6.below (fun b e => (HOW2.out.lt b e).1) HB2.out.size)⟩, by simp [intOf]; omega⟩
  · obtain rfl : k = mu.length := by omega
    rw [List.take_length] at HZ
    have HMU := Lib.hid ((Sl.owned encU_len HOW.out).mutes)
    clear hzk
    go_wp2_with fail
    refine (any_any HMU.out at_).mono ?_
    rintro e w3 ⟨rfl, hb⟩
    have HB3 := Lib.hid (HB0.out.trans ((HB.out.trans (hb.mono HB.out.size)).mono HB0.out.size))
    have HE : Hid (anyS zs at_ = mutedB ms mu at_) := Lib.hid (by unfold mutedB; rw [HZ.out])
    clear hb
    go_wp2_with fail
    go_ret
    exact ⟨by rw [HE.out]; rfl, HB3.out⟩
end Go.Proofs.Ytajflljemfgkiaa

/- OweMessage's walk -/
import Derived.Test.YtajflljemfgkiaaEAwk
import Derived.Test.YtajflljemfgkiaaEOtl
namespace Go.Proofs.Ytajflljemfgkiaa
open Go.RowKit Mut
attribute [local go_sem] Oper.semAt_some
theorem drop_at' {α : Type} {l : List α} {k : Nat} {x : α} (h : l[k]? = some x) : l.drop k = x :: l.drop (k + 1) := by
  obtain ⟨hk, rfl⟩ := List.getElem?_eq_some_iff.1 h
  exact List.drop_eq_getElem_cons hk
def backK (l : List Al) (j : Nat) : List ByteArray := ((l.drop j).map Al.by_).reverse
theorem backK_step {l : List Al} {j : Nat} {x : Al} (h : l[j]? = some x) : backK l j = backK l (j + 1) ++ [x.by_] := by
  unfold backK
  rw [drop_at' h, List.map_cons, List.reverse_cons]
theorem backK_len (l : List Al) (j : Nat) : (backK l j).length = l.length - j := by unfold backK; simp
theorem since_only {l : List Al} (hn : (l.map Al.by_).Nodup) {j : Nat} {x : Al} (h : l[j]? = some x) : sinceOf l x.by_ = x.since := by
  unfold sinceOf
  rw [find_at h (by unfold isBy; simp) (fun y hy => ?_)]
  obtain ⟨i, hi⟩ := List.getElem?_of_mem hy
  have hij : i < j := by
    have h1 := (List.getElem?_eq_some_iff.1 hi).1
    rw [List.length_take] at h1
    omega
  rw [List.getElem?_take_of_lt hij] at hi
  unfold isBy
  rw [decide_eq_false_iff_not]
  intro e
  have e1 : (l.map Al.by_)[i]? = some y.by_ := by rw [List.getElem?_map, hi]; rfl
  have e2 : (l.map Al.by_)[j]? = some y.by_ := by rw [List.getElem?_map, h, e]; rfl
  have hl := (List.getElem?_eq_some_iff.1 e1).1
  have := (List.getElem?_inj hl hn).1 (e1.trans e2.symm)
  omega
theorem back_at {l : List Al} {i j : Nat} {x : Al} (h : l[j]? = some x) (hij : i + j + 1 = l.length) : (backK l 0)[i]? = some x.by_ := by
  unfold backK
  rw [List.drop_zero, List.getElem?_reverse (by rw [List.length_map]; omega), List.length_map, show l.length - 1 - i = j by omega, List.getElem?_map, h]
  rfl
theorem nodup_snoc {l : List ByteArray} {x : ByteArray} (h : l.Nodup) (hx : hasK l x = false) : (l ++ [x]).Nodup := by
  rw [List.nodup_append]
  refine ⟨h, by simp, fun a ha b hb e => ?_⟩
  obtain rfl := List.mem_singleton.1 hb
  have := hasK_iff.2 (e ▸ ha)
  rw [hx] at this
  cases this
set_option maxRecDepth 100000 in
set_option maxHeartbeats 800000 in
theorem oweMessage_any {R : Rl} {fp at_ : Int} {v2 : Value} {l : List Al} {w : World} (hr : Ro (fun _ => True) w R) (_ : (Lit.int .u32 fp).wf = true) (h2 : Sl (fun _ => True) w v2 5 encA l) (_ : (Lit.int .i64 at_).wf = true) :
    Calls Try.prog 9 #[rv R, .int .u32 fp, v2, .int .i64 at_] w (Tells (.bool true) w) := by
  have hnv := hr.n
  have hmv := hr.m.oneCell
  have hb0 : Below w.heap.size w (w.alloc (.cells (rc R) 25)) := (Below.refl _ w).alloc (Nat.le_refl _) _
  have b4 := Box.new w (rc R) 25
  have H2 := Lib.hid (h2.below hb0)
  obtain ⟨p2, c2, rfl, -, -⟩ := h2.len
  obtain ⟨W0, hW0⟩ : ∃ W0, (w.alloc (.cells (rc R) 25)) = W0 := ⟨_, rfl⟩
  rw [hW0] at hb0 b4 H2
  have HW0 := Lib.hid hW0
  have HB0 := Lib.hid hb0
  have H4 := Lib.hid b4
  obtain ⟨nm, by0, nv, fr, ev, rp, mvv, mu, rt⟩ := R
  simp only at hnv hmv
  clear hr h2 hb0 b4 hW0
  go_enter Try.func9, Try.ntmps9
  go_wp2_with fail
  rw [HW0.out]
  refine (awake_any W0).mono ?_
  rintro e w1 ⟨rfl, hb⟩
  have HB1 := Lib.hid (HB0.out.trans (hb.mono HB0.out.size))
  have H21 := Lib.hid (H2.out.below hb)
  have H41 := Lib.hid (H4.out.below hb)
  have HGR := Lib.hid (great_any (ms := []) (keys := []) (v2 := .slice none 0 0) (v4 := .slice none 0 0) (zeroR_ro (fun _ => True) w1) (Sl.nil (fun _ => True) w1) H21.out (Sl.nil (fun _ => True) w1))
  clear hb H2 H4
  go_wp2_with fail
  refine HGR.out.mono ?_
  rintro e w2 ⟨bg, rfl, hbg, hb⟩
  have HB2 := Lib.hid (HB1.out.trans (hb.mono HB1.out.size))
  cases bg with
  | true =>
    clear hbg hb
    go_wp2_with fail
    go_ret
    exact ⟨rfl, HB2.out⟩
  | false =>
    obtain ⟨⟨g1, -, -, -⟩, -, -, -, -⟩ := hbg rfl
    have H22 := Lib.hid (H21.out.below hb)
    have H42 := Lib.hid (H41.out.below hb)
    obtain ⟨i0, hi, hi0, hi1, hi2⟩ := info_parts info_string
    have HI := Lib.hid hi
    have HI0 := Lib.hid hi0
    have HI1 := Lib.hid hi1
    have HI2 := Lib.hid hi2
    clear hbg hb HGR HB1 H21 H41 hi hi0 hi1 hi2
    go_wp2_with fail
    go_loopw [9, 10] (fun nv_ jv_ wr => ∃ (j : Nat) (q : Option Addr) (zs : List ByteArray) (d : Nat), nv_ = .slice q zs.length d ∧ jv_ = .int .i64 ((j : Int) - 1) ∧ j ≤ l.length ∧ zs = backK l j ∧ zs.Nodup ∧ wr.ownsRow w2.heap.size 9 1 (.slice q zs.length d) zs.length (zs.flatMap encS) ∧ Below w2.heap.size w2 wr) (fun _ jv_ _ => (intOf jv_ + 1).toNat)
    · exact ⟨l.length, none, [], 0, rfl, by simp, by omega, by unfold backK; simp, List.nodup_nil, World.ownsRow_nil _ _ _ _, Below.refl _ _⟩
    obtain ⟨j, q, zs, d, rfl, rfl, hj, hz, hnd, how, hB⟩ := hrel
    have hzl : zs.length ≤ 200 := by rw [hz, backK_len]; omega
    have HZL : Hid (zs.length = l.length - j) := Lib.hid (by rw [hz, backK_len])
    have HZ := Lib.hid hz
    have HND := Lib.hid hnd
    have HOW := Lib.hid how
    have HB := Lib.hid hB
    clear hz hnd how hB
    by_cases hj0 : 0 < j
    · obtain ⟨j1, rfl⟩ : ∃ j1, j = j1 + 1 := ⟨j - 1, by omega⟩
      have hjs : ((j1 + 1 : Nat) : Int) - 1 = (j1 : Int) := by omega
      rw [hjs]
      clear hjs
      obtain ⟨⟨r, by_, st, si, t⟩, hy⟩ : ∃ y, l[j1]? = some y := ⟨_, List.getElem?_eq_getElem (by omega)⟩
      obtain ⟨ad, rfl, -, -, hrow⟩ := (H22.out.below HB.out).at hy
      obtain ⟨y0, y1, y2, y3, y4⟩ := cells_A hrow hy
      simp only at y1
      have hjj : (j1 : Int) < (l.length : Int) := by omega
      have hj0' : (0 : Int) ≤ (j1 : Int) := by omega
      have HST := Lib.hid (backK_step hy)
      have HHK := Lib.hid (has_any (s := by_) (Sl.owned encS_len HOW.out) (by omega))
      clear hrow hy y0 y2 y3 y4
      go_wp2_with fail
      refine HHK.out.mono ?_
      rintro e w6 ⟨rfl, rfl⟩
      cases hhas : hasK zs by_ with
      | true =>
        clear hhas
        have HF := Lib.hid (HB2.out.trans (HB.out.mono HB2.out.size))
        go_wp2_with fail
        go_ret
        exact ⟨rfl, HF.out⟩
      | false =>
        have HND2 := Lib.hid (nodup_snoc HND.out hhas)
        clear hhas HHK
        go_wp2_with (at_builtin; refine wpList_append_sl encS_len rfl (.tmp 32) (.tmp 38) 23 rfl w2.heap.size 9 i0 _ 16 Try.underlying23 HI.out HI0.out HI1.out HI2.out rfl (by decide) (v := .slice q zs.length d) (xs := zs) (ys := [by_]) (by rfl) (by rfl) (owns_keep HOW.out (fun b e => Below.heap_alloc _ _ _ (HOW.out.lt b e).2)) (Sl.one (S := fun _ => True) encS_len (Box.new _ _ _) rfl trivial) (by simp [Value.oneCell']) (by simp only [List.length_cons, List.length_nil]; unfold maxLen; omega) (by simp only [List.length_cons, List.length_nil]; omega) (by have := HB.out.size; rw [World.size_alloc]; omega) ?_; intro v5 w5 hown5 hk5 hat5; obtain ⟨q5, d5, rfl⟩ := owns_slice hown5)
        have hk6 := Kept.first ((Below.refl _ wr).alloc (Nat.le_refl _) _) hk5
        refine ⟨⟨j1, q5, zs ++ [by_], d5, by simp, by simp, by omega, by rw [HST.out, HZ.out], HND2.out, hown5, HB.out.trans (hk6.below (fun b e => (HOW.out.lt b e).1) HB.out.size)⟩, by simp [intOf]⟩
    · obtain rfl : j = 0 := by omega
      have HZ0 : Hid (zs.length = l.length) := Lib.hid (by have := HZL.out; omega)
      have HK := Lib.hid ((Sl.owned encS_len HOW.out).mono (T := fun _ => True) (fun _ _ _ => trivial))
      have c4 := (H42.out.below HB.out).rd.1
      have HMS := Lib.hid (message_any (R := ⟨nm, by0, nv, fr, ev, rp, mvv, mu, rt⟩) (fp := fp) (at_ := at_) (H22.out.below HB.out) HK.out (by omega) (by omega) hnv hmv)
      rw [show ((0 : Nat) : Int) - 1 = -1 from rfl]
      clear HZL
      go_wp2_with fail
      refine HMS.out.mono ?_
      rintro e w3 ⟨⟨kv, sv, ⟨m1, m2, m3, m4, m5⟩⟩, rfl, hm, hmw, hb⟩
      obtain ⟨KS, hKS⟩ : ∃ KS, zs = KS := ⟨_, rfl⟩
      rw [hKS] at hm HK HZ HND HZ0 HOW hzl ⊢
      have hm := hm.symm
      simp only [msgOf, Ms.mk.injEq] at hm
      obtain ⟨rfl, rfl, rfl, rfl, rfl⟩ := hm
      try dsimp only [msgOf] at hmw
      try dsimp only [msgOf]
      have e2 : (KS.map (sinceOf l)).length = KS.length := List.length_map _
      have hk1 := hmw.k
      have hs1 := hmw.s
      simp only [e2] at hk1 hs1
      obtain ⟨q1, d1, e51⟩ := owns_slice hk1
      obtain ⟨q2, d2, e52⟩ := owns_slice hs1
      subst e51 e52
      have hb6 : Below w3.heap.size w3 (w3.alloc (.cells #[.int .u32 fp, .string rt, .int .i64 at_, .slice q1 KS.length d1, .slice q2 KS.length d2] 33)) := (Below.refl _ w3).alloc (Nat.le_refl _) _
      have HBM := Lib.hid (below_then hb hb6)
      have HWR := Lib.hid (HB2.out.trans (HB.out.mono HB2.out.size))
      have HSK := Lib.hid (((Sl.owned encS_len hmw.k).mono (T := fun _ => True) (fun _ _ _ => trivial)).below hb6)
      have HSS := Lib.hid (((Sl.owned encJ_len hmw.s).mono (T := fun _ => True) (fun _ _ _ => trivial)).below hb6)
      have HLN := Lib.hid (((H22.out.below HB.out).below hb).below hb6)
      have HKN := Lib.hid ((HK.out.below hb).below hb6)
      have HBXM := Lib.hid (Box.new w3 #[.int .u32 fp, .string rt, .int .i64 at_, .slice q1 KS.length d1, .slice q2 KS.length d2] 33)
      have c4 := (((H42.out.below HB.out).below hb).below hb6).rd.1
      obtain ⟨W4, hW4⟩ : ∃ W4, (w3.alloc (.cells #[.int .u32 fp, .string rt, .int .i64 at_, .slice q1 KS.length d1, .slice q2 KS.length d2] 33)) = W4 := ⟨_, rfl⟩
      rw [hW4] at HSK HSS HLN HKN HBXM c4
      have HSN := Lib.hid (sameNames_any HSK.out HKN.out (by show KS.length ≤ 100000; omega))
      have HW4 := Lib.hid hW4
      have HBM4 : Hid (Below wr.heap.size wr W4) := Lib.hid (by rw [← hW4]; exact HBM.out)
      clear hmw hb hb6 hk1 hs1 e2 HMS hW4 HBM hKS
      go_upto_region 13 with fail
      rw [HW4.out]
      have c5 := HBXM.out.rd.1
      rw [HZ0.out] at c5 HSN ⊢
      go_wp2_with fail
      refine HSN.out.mono ?_
      rintro e w5 ⟨rfl, hb⟩
      have HB5 := Lib.hid (HBM4.out.trans (hb.mono HBM4.out.size))
      have HL5 := Lib.hid (HLN.out.below hb)
      have HS5 := Lib.hid (HSS.out.below hb)
      have HX5 := Lib.hid (HBXM.out.below hb)
      clear hb HSN HBXM HLN HSS HSK HKN HBM4 c4 c5
      go_wp2_with fail
      go_loopw [12] (fun iv_ wr2 => ∃ k : Nat, iv_ = .int .i64 k ∧ k ≤ l.length ∧ Below w5.heap.size w5 wr2) (fun iv_ _ => l.length - (intOf iv_).toNat)
      · exact ⟨0, rfl, by omega, Below.refl _ _⟩
      obtain ⟨k, rfl, hk, hB⟩ := hrel
      have HB7 := Lib.hid hB
      by_cases hlt : k < l.length
      · obtain ⟨j, hj⟩ : ∃ j, k + j + 1 = l.length := ⟨l.length - 1 - k, by omega⟩
        obtain ⟨⟨r, by_, st, si, t⟩, hx⟩ : ∃ x, l[j]? = some x := ⟨_, List.getElem?_eq_getElem (by omega)⟩
        have hsk : (KS.map (sinceOf l))[k]? = some si := by
          have hnd : (l.map Al.by_).Nodup := by
            have := HND.out
            rw [HZ.out] at this
            unfold backK at this
            rw [List.drop_zero] at this
            exact (List.pairwise_reverse.1 this).imp (fun h => h.symm)
          rw [HZ.out, List.getElem?_map, back_at hx hj]
          exact congrArg some (since_only hnd hx)
        obtain ⟨ad, rfl, -, -, hrow⟩ := (HL5.out.below hB).at hx
        obtain ⟨y0, y1, y2, y3, y4⟩ := cells_A hrow hx
        obtain ⟨ad2, rfl, -, -, hrow2⟩ := (HS5.out.below hB).at hsk
        have z0 := hrow2 k _ hsk 0 _ rfl
        rw [Addr.add_zero', Nat.mul_one] at z0
        simp only at y3
        have hbx := HX5.out.below hB
        rw [HZ0.out] at hbx
        have hkk : (k : Int) < (l.length : Int) := by omega
        have HWA : Hid (IntKind.i64.wrap ((l.length : Int) - 1) = (l.length : Int) - 1) := Lib.hid (IntWalk.i64_in _ ⟨by omega, by omega⟩)
        have HWB : Hid (IntKind.i64.wrap ((l.length : Int) - 1 - (k : Int)) = (j : Int)) := Lib.hid ((IntWalk.i64_in _ ⟨by omega, by omega⟩).trans (by omega))
        have hjl : (j : Int) < (l.length : Int) := by omega
        have HJ := Lib.hid hj
        clear hx hsk hrow hrow2 y0 y1 y2 y4 hB hj
        go_wp2_with fail
        refine wp_region_ordH [0, 1, 2, 3, 4, 5, 6, 7, 8, 9, 10, 11, 12, 13, 14] (fun w' => Below wr.heap.size wr w') (by kernel_rfl) (by kernel_rfl) ?_
        have hb0 : Below wr.heap.size wr wr.drew := (Below.refl _ wr).drew
        iterate 15 ((first | (refine ordH_free (v := ?_) rfl (by kernel_rfl) (fun _ _ _ h => h) (Or.inl ⟨rfl, fun w' hS => ?_⟩) hb0 ?_; rotate_left; (have hwa := HWA.out; have hwb := HWB.out; have z0 := cell_below z0 hS; have y3 := cell_below y3 hS; have cx := (hbx.below hS).rd.1; go_simp <;> with_reducible rfl)) | (refine ordH_free (v := undef) rfl (by kernel_rfl) (fun _ _ _ h => h) (Or.inr ⟨rfl, rfl⟩) hb0 ?_)); (simp only [Act.put, List.setIfInBounds_toArray, List.set_cons_zero, List.set_cons_succ]))
        refine ⟨by kernel_rfl, ?_⟩
        have HB8 : Hid (Below w5.heap.size w5 wr.drew) := Lib.hid (HB7.out.drew)
        clear z0 y3 hb0 hbx
        go_wp2_with fail
        exact ⟨⟨k + 1, by simp, by omega, HB8.out⟩, by simp [intOf]; omega⟩
      · obtain rfl : k = l.length := by omega
        have HF := Lib.hid (HWR.out.trans ((HB5.out.trans (HB7.out.mono HB5.out.size)).mono HWR.out.size))
        clear hB
        go_wp2_with fail
        go_ret
        exact ⟨rfl, HF.out⟩
end Go.Proofs.Ytajflljemfgkiaa

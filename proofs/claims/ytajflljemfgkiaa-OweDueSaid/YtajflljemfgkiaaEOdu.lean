/- OweDue's walk -/
import Derived.Test.YtajflljemfgkiaaERDu
import Derived.Test.YtajflljemfgkiaaEMuT
import Derived.Test.YtajflljemfgkiaaEOtl
namespace Go.Proofs.Ytajflljemfgkiaa
open Go.RowKit Mut
attribute [local go_sem] Oper.semAt_some
/-- what stands from the first turn on -/
structure TD (w : World) (R : Rl) (l : List Al) (ms : List MuteD) (ks : List ByteArray) (vl vu vm vo vw : Value) (W : World) : Prop where
  below : Below w.heap.size w W
  b4 : Box W w.heap.size (rc R) 25
  ro : Ro (fun _ => True) W R
  sl : Sl (fun _ => True) W vl 5 encA l
  su : Sl (fun _ => True) W vu 10 encU ms
  mine : Sl (fun _ => True) W vm 5 encA l
  others : Sl (fun _ => True) W vo 10 encU ms
  want : Sl (fun _ => True) W vw 1 encS ks
theorem TD.later {w : World} {R : Rl} {l : List Al} {ms : List MuteD} {ks : List ByteArray} {vl vu vm vo vw : Value} {W W' : World} (h : TD w R l ms ks vl vu vm vo vw W) (hb : Below W.heap.size W W') : TD w R l ms ks vl vu vm vo vw W' :=
  ⟨h.below.trans (hb.mono h.below.size), h.b4.below hb, ⟨h.ro.m.below hb, h.ro.n⟩, h.sl.below hb, h.su.below hb, h.mine.below hb, h.others.below hb, h.want.below hb⟩
set_option maxRecDepth 100000 in
set_option maxHeartbeats 4000000 in
theorem oweDue_any {R : Rl} {at_ : Int} {v1 v2 : Value} {ms : List MuteD} {l : List Al} {w : World} (hr : Ro (fun _ => True) w R) (h1 : Sl (fun _ => True) w v1 10 encU ms) (h2 : Sl (fun _ => True) w v2 5 encA l) (_ : (Lit.int .i64 at_).wf = true) :
    Calls Try.prog 4 #[rv R, v1, v2, .int .i64 at_] w (Tells (.bool true) w) := by
  have hnv := hr.n
  have hmv := hr.m.oneCell
  have hb0 : Below w.heap.size w (w.alloc (.cells (rc R) 25)) := (Below.refl _ w).alloc (Nat.le_refl _) _
  have b4 := Box.new w (rc R) 25
  have hr0 : Ro (fun _ => True) (w.alloc (.cells (rc R) 25)) R := ⟨hr.m.below hb0, hr.n⟩
  have H1 := Lib.hid (h1.below hb0)
  have H2 := Lib.hid (h2.below hb0)
  obtain ⟨p1, c1, rfl, -, -⟩ := h1.len
  obtain ⟨p2, c2, rfl, -, -⟩ := h2.len
  obtain ⟨W0, hW0⟩ : ∃ W0, (w.alloc (.cells (rc R) 25)) = W0 := ⟨_, rfl⟩
  rw [hW0] at hb0 b4 H1 H2 hr0
  have HW0 := Lib.hid hW0
  have HB0 := Lib.hid hb0
  have H4 := Lib.hid b4
  have HR := Lib.hid hr0
  have HGR := Lib.hid (great_any (keys := []) (v4 := .slice none 0 0) hr0 H1.out H2.out (Sl.nil (fun _ => True) W0))
  obtain ⟨nm, by0, nv, fr, ev, rp, mvv, mu, rt⟩ := R
  simp only at hnv hmv
  have c4 := b4.rd.1
  clear hr h1 h2 hb0 b4 hr0 hW0
  go_enter Try.func4, Try.ntmps4
  go_wp2_with fail
  rw [HW0.out]
  go_wp2_with fail
  refine HGR.out.mono ?_
  rintro e w1 ⟨bg, rfl, hbg, hb⟩
  have HB1 := Lib.hid (HB0.out.trans (hb.mono HB0.out.size))
  cases bg with
  | true =>
    clear hbg hb c4
    go_wp2_with fail
    go_ret
    exact ⟨rfl, HB1.out⟩
  | false =>
    obtain ⟨⟨g1, -, g3, g4⟩, g5, -, -, -⟩ := hbg rfl
    simp only at g4
    have H11 := Lib.hid (H1.out.below hb)
    have H21 := Lib.hid (H2.out.below hb)
    have H41 := Lib.hid (H4.out.below hb)
    have HR1 : Hid (Ro (fun _ => True) w1 ⟨nm, by0, nv, fr, ev, rp, mvv, mu, rt⟩) := Lib.hid ⟨HR.out.m.below hb, HR.out.n⟩
    have HS1 : Hid (∀ x ∈ l, x.by_.size ≤ maxLen) := Lib.hid fun x hx => by have := g5 x hx; unfold maxLen; omega
    have HNE := Lib.hid (near_any (R := ⟨nm, by0, nv, fr, ev, rp, mvv, mu, rt⟩) (at_ := at_) H21.out (by omega) hnv hmv)
    clear hbg hb g5 HGR H1 H2 H4 HR c4
    have c4 := H41.out.rd.1
    go_wp2_with fail
    refine HNE.out.mono ?_
    rintro e w2 ⟨bn, rfl, hbn, hb⟩
    have HB2 := Lib.hid (HB1.out.trans (hb.mono HB1.out.size))
    cases bn with
    | false =>
      clear hbn hb c4
      go_wp2_with fail
      go_ret
      exact ⟨rfl, HB2.out⟩
    | true =>
      have HNP := Lib.hid (hbn rfl)
      have H12 := Lib.hid (H11.out.below hb)
      have H22 := Lib.hid (H21.out.below hb)
      have H42 := Lib.hid (H41.out.below hb)
      have HR2 : Hid (Ro (fun _ => True) w2 ⟨nm, by0, nv, fr, ev, rp, mvv, mu, rt⟩) := Lib.hid ⟨HR1.out.m.below hb, HR1.out.n⟩
      have HCP := Lib.hid (copy_any H22.out (by omega))
      clear hbn hb HNE H11 H21 H41 HR1 c4 HB1
      go_wp2_with fail
      refine HCP.out.mono ?_
      rintro e w3 ⟨vm, rfl, hom, hb⟩
      obtain ⟨pm, cm, rfl⟩ := owns_slice hom
      have HMI := Lib.hid ((Sl.owned encA_len hom).mono (T := fun _ => True) (fun _ _ _ => trivial))
      have H13 := Lib.hid (H12.out.below hb)
      have H23 := Lib.hid (H22.out.below hb)
      have H43 := Lib.hid (H42.out.below hb)
      have HR3 : Hid (Ro (fun _ => True) w3 ⟨nm, by0, nv, fr, ev, rp, mvv, mu, rt⟩) := Lib.hid ⟨HR2.out.m.below hb, HR2.out.n⟩
      have HB3 := Lib.hid (HB2.out.trans (hb.mono HB2.out.size))
      obtain ⟨j0, hj, hj0, hj1, hj2⟩ := info_parts info_mute
      have HJ := Lib.hid hj
      have HJ0 := Lib.hid hj0
      have HJ1 := Lib.hid hj1
      have HJ2 := Lib.hid hj2
      clear hom hb hj hj0 hj1 hj2 H12 H22 H42 HR2 HB2 HCP
      go_wp2_with (at_builtin; refine wpList_append_sl encU_len rfl (.tmp 29) (.tmp 30) 41 rfl w3.heap.size 46 j0 _ 40 Try.underlying41 HJ.out HJ0.out HJ1.out HJ2.out rfl (by decide) (v := .slice none 0 0) (xs := []) (ys := ms) rfl rfl (World.ownsRow_nil _ _ _ _) H13.out (fun y _ u hu => encU_one y u hu) (by unfold maxLen; simp; omega) (by simp; omega) (Nat.le_refl _) ?_; intro v4 w4 hon hk4 hat4; obtain ⟨po, co, rfl⟩ := owns_slice hon; have c4 := (H43.out.below (hk4.below (fun k e => by cases e) (Nat.le_refl _))).rd.1)
      rw [List.nil_append] at hon
      have HOT := Lib.hid ((Sl.owned encU_len hon).mono (T := fun _ => True) (fun _ _ _ => trivial))
      have hb4 : Below w3.heap.size w3 w4 := hk4.below (fun k e => by cases e) (Nat.le_refl _)
      have HMI4 := Lib.hid (HMI.out.below hb4)
      have H14 := Lib.hid (H13.out.below hb4)
      have H24 := Lib.hid (H23.out.below hb4)
      have H44 := Lib.hid (H43.out.below hb4)
      have HR4 : Hid (Ro (fun _ => True) w4 ⟨nm, by0, nv, fr, ev, rp, mvv, mu, rt⟩) := Lib.hid ⟨HR3.out.m.below hb4, HR3.out.n⟩
      have HB4 := Lib.hid (HB3.out.trans (hb4.mono HB3.out.size))
      have HRD := Lib.hid (rdue_any HR4.out H14.out H24.out (by omega) (by simp only; omega) (by omega) HNP.out)
      clear hon hk4 hat4 hb4 HMI H13 H23 H43 HR3 HB3
      refine HRD.out.mono ?_
      rintro e w5 ⟨vw, rfl, how, hb⟩
      obtain ⟨KS, hKS⟩ : ∃ KS, dueL ⟨nm, by0, nv, fr, ev, rp, mvv, mu, rt⟩ ms l at_ = KS := ⟨_, rfl⟩
      rw [hKS] at how
      obtain ⟨pw, cw, rfl⟩ := owns_slice how
      have HKS := Lib.hid hKS
      have hkl : KS.length ≤ 200 := by
        rw [← hKS]
        unfold dueL
        split
        · simp
        · have := dueK_len rp at_ l
          simp only
          omega
      have HTD : Hid (TD w ⟨nm, by0, nv, fr, ev, rp, mvv, mu, rt⟩ l ms KS (.slice p2 l.length c2) (.slice p1 ms.length c1) (.slice pm l.length cm) (.slice po ms.length co) (.slice pw KS.length cw) w5) := Lib.hid ⟨HB4.out.trans (hb.mono HB4.out.size), H44.out.below hb, ⟨HR4.out.m.below hb, HR4.out.n⟩, H24.out.below hb, H14.out.below hb, HMI4.out.below hb, HOT.out.below hb, (Sl.owned encS_len how).mono (fun _ _ _ => trivial)⟩
      clear how hb hKS c4 HRD HMI4 HOT H14 H24 H44 HR4 HB4
      go_wp2_with fail
      go_loopw [12, 13, 14] (fun iv_ _ _ wr => ∃ k : Nat, iv_ = .int .i64 k ∧ k ≤ 2 ∧ TD w ⟨nm, by0, nv, fr, ev, rp, mvv, mu, rt⟩ l ms KS (.slice p2 l.length c2) (.slice p1 ms.length c1) (.slice pm l.length cm) (.slice po ms.length co) (.slice pw KS.length cw) wr) (fun iv_ _ _ _ => 2 - (intOf iv_).toNat)
      · exact ⟨0, rfl, by omega, HTD.out⟩
      obtain ⟨k, rfl, hk, hT⟩ := hrel
      have HT := Lib.hid hT
      clear hT HTD
      by_cases hk2 : k < 2
      · have hkk : (k : Int) < 2 := by omega
        obtain ⟨Wo, hWo⟩ : ∃ Wo, Wo = wr := ⟨_, rfl⟩
        rw [← hWo] at HT ⊢
        clear hWo wr
        have c4 := HT.out.b4.rd.1
        have HDU := Lib.hid (due_any HT.out.ro HT.out.others HT.out.mine (by omega) (by simp only; omega) (by omega) HS1.out HNP.out)
        go_wp2_with fail
        refine HDU.out.mono ?_
        rintro e w6 ⟨vk, rfl, ho, hb⟩
        rw [HKS.out] at ho
        obtain ⟨pk, ck, rfl⟩ := owns_slice ho
        have HO6 := Lib.hid ho
        have HB6 := Lib.hid hb
        have HT6 := Lib.hid (HT.out.later hb)
        have HSN := Lib.hid (sameNames_any (S := fun _ => True) ((Sl.owned encS_len ho).mono (fun _ _ _ => trivial)) HT6.out.want (by omega))
        clear ho hb c4 HDU
        go_wp2_with fail
        refine HSN.out.mono ?_
        rintro e w7 ⟨rfl, hb⟩
        have HO7 := Lib.hid (owns_keep HO6.out (fun b e => hb.block b (HO6.out.lt b e).2))
        have HB7 := Lib.hid (HB6.out.trans (hb.mono HB6.out.size))
        have HT7 := Lib.hid (HT6.out.later hb)
        have HSA := Lib.hid (sameA_any HT7.out.mine HT7.out.sl (by omega))
        clear hb HSN HO6 HB6 HT6
        go_wp2_with fail
        refine HSA.out.mono ?_
        rintro e w8 ⟨rfl, hb⟩
        have HO8 := Lib.hid (owns_keep HO7.out (fun b e => hb.block b (HO7.out.lt b e).2))
        have HB8 := Lib.hid (HB7.out.trans (hb.mono HB7.out.size))
        clear hb HSA HO7 HB7 HT7
        go_wp2_with fail
        go_loopw [14] (fun iv_ wr => ∃ (j : Nat) (zs : List ByteArray), iv_ = .int .i64 j ∧ j ≤ KS.length ∧ zs.length = KS.length ∧ wr.ownsRow Wo.heap.size 9 1 (.slice pk KS.length ck) KS.length (zs.flatMap encS) ∧ Below Wo.heap.size Wo wr) (fun iv_ _ => KS.length - (intOf iv_).toNat)
        · exact ⟨0, KS, rfl, by omega, rfl, HO8.out, HB8.out⟩
        obtain ⟨j, zs, rfl, hj, hzl, ho, hb⟩ := hrel
        have HO := Lib.hid ho
        have HB := Lib.hid hb
        have HZL := Lib.hid hzl
        clear HO8 HB8 hb
        by_cases hjl : j < KS.length
        · obtain ⟨g, rfl⟩ := own_some ho (by omega)
          obtain ⟨x, hx⟩ : ∃ x, zs[j]? = some x := ⟨_, List.getElem?_eq_getElem (by omega)⟩
          have d1 := own_rdG encS_len ho hx 0 _ rfl
          have f1 := own_fzG ho
          have l1 := (ho.lt g rfl).2
          have m1 := (ho.lt g rfl).1
          have hjk : (j : Int) < (KS.length : Int) := by omega
          simp only [Nat.mul_one, Nat.add_zero] at d1
          have HX := Lib.hid hx
          clear ho hx hzl
          go_wp2_with fail
          have hs1 := own_putG (j := 0) (u := .string ⟨#[115, 112, 111, 105, 108, 116]⟩) (o' := ⟨#[115, 112, 111, 105, 108, 116]⟩) encS_len HO.out HX.out (by decide) rfl
          simp only [Nat.mul_one, Nat.add_zero] at hs1
          have hk1 : Kept (fun b => b = g) wr (wr.setCell ⟨g, j, none⟩ (.string ⟨#[115, 112, 111, 105, 108, 116]⟩)) := (Kept.refl (fun b => b = g) wr).setCell _ _ (fun _ => rfl)
          refine ⟨⟨j + 1, zs.set j ⟨#[115, 112, 111, 105, 108, 116]⟩, by simp, by omega, by rw [List.length_set]; exact HZL.out, hs1, HB.out.trans (hk1.below (fun b e => by omega) HB.out.size)⟩, by simp [intOf]; omega⟩
        · obtain rfl : j = KS.length := by omega
          clear ho hzl
          go_wp2_with fail
          refine ⟨⟨k + 1, by simp, by omega, HT.out.later HB.out⟩, by simp [intOf]; omega⟩
      · obtain rfl : k = 2 := by omega
        rw [show ((2 : Nat) : Int) = 2 from rfl]
        go_wp2_with fail
        obtain ⟨Wo, hWo⟩ : ∃ Wo, Wo = wr := ⟨_, rfl⟩
        rw [← hWo] at HT ⊢
        clear hWo wr
        go_loopw [15] (fun iv_ wr => ∃ k : Nat, iv_ = .int .i64 k ∧ k ≤ ms.length ∧ Below Wo.heap.size Wo wr) (fun iv_ _ => ms.length - (intOf iv_).toNat)
        · exact ⟨0, rfl, by omega, Below.refl _ _⟩
        obtain ⟨k, rfl, hk, hB⟩ := hrel
        have HB := Lib.hid hB
        by_cases hlt : k < ms.length
        · obtain ⟨⟨nm2, e0, e1, e2, e3, e4, e5, e6, ff, tt⟩, hx⟩ : ∃ x, ms[k]? = some x := ⟨_, List.getElem?_eq_getElem hlt⟩
          obtain ⟨a1, h1, -, -, hr1⟩ := (HT.out.others.below hB).at hx
          cases h1
          obtain ⟨a2, h2, -, -, hr2⟩ := (HT.out.su.below hB).at hx
          cases h2
          obtain ⟨x0, x1, x2, x3, x4, x5, x6, x7, x8, x9⟩ := cells_U hr1 hx
          obtain ⟨y0, y1, y2, y3, y4, y5, y6, y7, y8, y9⟩ := cells_U hr2 hx
          simp only at x0 x1 x2 x3 x4 x5 x6 x7 x8 x9 y0 y1 y2 y3 y4 y5 y6 y7 y8 y9
          have hkk : (k : Int) < (ms.length : Int) := by omega
          have hq := fun w => equal_mute ⟨nm2, e0, e1, e2, e3, e4, e5, e6, ff, tt⟩ w
          have hg := guard_mute
          clear hr1 hr2 hx hB
          go_wp2_with fail
          refine wp_region_ordH [0, 1, 2, 3, 4, 5, 6, 7, 8] (fun w' => Below wr.heap.size wr w') (by kernel_rfl) (by kernel_rfl) ?_
          have hb0 : Below wr.heap.size wr wr.drew := (Below.refl _ wr).drew
          iterate 8 ((first | (refine ordH_free (v := ?_) rfl (by kernel_rfl) (fun _ _ _ h => h) (Or.inl ⟨rfl, fun w' hS => ?_⟩) hb0 ?_; rotate_left; (have x0 := cell_below x0 hS; have x1 := cell_below x1 hS; have x2 := cell_below x2 hS; have x3 := cell_below x3 hS; have x4 := cell_below x4 hS; have x5 := cell_below x5 hS; have x6 := cell_below x6 hS; have x7 := cell_below x7 hS; have x8 := cell_below x8 hS; have x9 := cell_below x9 hS; have y0 := cell_below y0 hS; have y1 := cell_below y1 hS; have y2 := cell_below y2 hS; have y3 := cell_below y3 hS; have y4 := cell_below y4 hS; have y5 := cell_below y5 hS; have y6 := cell_below y6 hS; have y7 := cell_below y7 hS; have y8 := cell_below y8 hS; have y9 := cell_below y9 hS; go_simp <;> with_reducible rfl)) | (refine ordH_free (v := undef) rfl (by kernel_rfl) (fun _ _ _ h => h) (Or.inr ⟨rfl, rfl⟩) hb0 ?_)); (simp only [Act.put, List.setIfInBounds_toArray, List.set_cons_zero, List.set_cons_succ]))
          iterate 1 ((first | (refine ordH_free (v := ?_) rfl (by kernel_rfl) (fun _ _ _ h => h) (Or.inl ⟨rfl, fun w' hS => ?_⟩) hb0 ?_; rotate_left; (skip; go_simp <;> with_reducible rfl)) | (refine ordH_free (v := undef) rfl (by kernel_rfl) (fun _ _ _ h => h) (Or.inr ⟨rfl, rfl⟩) hb0 ?_)); (simp only [Act.put, List.setIfInBounds_toArray, List.set_cons_zero, List.set_cons_succ]))
          refine ⟨by kernel_rfl, ?_⟩
          have HB1 := Lib.hid (HB.out.drew)
          clear x0 x1 x2 x3 x4 x5 x6 x7 x8 x9 y0 y1 y2 y3 y4 y5 y6 y7 y8 y9 hb0 hq hg
          go_wp2_with fail
          exact ⟨⟨k + 1, by simp, by omega, HB1.out⟩, by simp [intOf]; omega⟩
        · obtain rfl : k = ms.length := by omega
          have HBE := Lib.hid (HT.out.below.trans (HB.out.mono HT.out.below.size))
          clear hB
          go_wp2_with fail
          go_ret
          exact ⟨rfl, HBE.out⟩
end Go.Proofs.Ytajflljemfgkiaa

/- Message: the reference's -/
import Derived.Test.YtajflljemfgkiaaEMsg
namespace Go.Proofs.Ytajflljemfgkiaa
open Go.RowKit
attribute [local go_sem] Oper.semAt_some

theorem since_cons (y : Al) (l : List Al) (s : ByteArray) : sinceOf (y :: l) s = if isBy s y then y.since else sinceOf l s := by
  unfold sinceOf
  by_cases h : isBy s y = true
  · rw [List.find?_cons_of_pos h, if_pos h]
  · rw [List.find?_cons_of_neg h, if_neg h]
theorem drop_at {l : List Al} {j : Nat} {y : Al} (h : l[j]? = some y) : l.drop j = y :: l.drop (j + 1) := by
  have hj : j < l.length := (List.getElem?_eq_some_iff.1 h).1
  rw [List.drop_eq_getElem_cons hj]
  congr 1
  have := List.getElem?_eq_getElem hj
  rw [this] at h
  exact Option.some.inj h
/-- what stands between two rounds -/
structure MI (fp at_ : Int) (rt : ByteArray) (bm : Nat) (W0 : World) (ks : List ByteArray) (zs : List Int) (q3 : Option Addr) (d3 : Nat) (q4 : Option Addr) (d4 : Nat) (W : World) : Prop where
  box : Box W bm #[.int .u32 fp, .string rt, .int .i64 at_, .slice q3 ks.length d3, .slice q4 zs.length d4] 33
  own1 : W.ownsRow W0.heap.size 9 1 (.slice q3 ks.length d3) ks.length (ks.flatMap encS)
  own2 : W.ownsRow W0.heap.size 3 1 (.slice q4 zs.length d4) zs.length (zs.flatMap encJ)
  n3 : (Value.slice q3 ks.length d3).ownBlock ≠ some bm
  n4 : (Value.slice q4 zs.length d4).ownBlock ≠ some bm
  ne : ∀ b, (Value.slice q3 ks.length d3).ownBlock = some b → (Value.slice q4 zs.length d4).ownBlock ≠ some b
  below : Below W0.heap.size W0 W
section
variable {fp at_ : Int} {rt : ByteArray} {bm : Nat} {W0 W W' W5 : World} {ks : List ByteArray} {zs : List Int} {q3 q4 : Option Addr} {d3 d4 : Nat}
theorem MI.later (h : MI fp at_ rt bm W0 ks zs q3 d3 q4 d4 W) (hb : Below W.heap.size W W') : MI fp at_ rt bm W0 ks zs q3 d3 q4 d4 W' :=
  ⟨h.box.below hb, owns_keep h.own1 (fun b e => hb.block b (h.own1.lt b e).2), owns_keep h.own2 (fun b e => hb.block b (h.own2.lt b e).2), h.n3, h.n4, h.ne, h.below.trans (hb.mono h.below.size)⟩
/-- a key more -/
theorem MI.key {s : ByteArray} {v : Value} {o : Obj} (h : MI fp at_ rt bm W0 ks zs q3 d3 q4 d4 W) (hbm : W0.heap.size ≤ bm) (hown : W5.ownsRow W0.heap.size 9 1 v (ks ++ [s]).length ((ks ++ [s]).flatMap encS)) (hk : Kept (fun b => (Value.slice q3 ks.length d3).ownBlock = some b) (W.alloc o) W5) (hat : v.ownBlock = (Value.slice q3 ks.length d3).ownBlock ∨ v.ownBlock = some (W.alloc o).heap.size) :
    ∃ q d, v = .slice q (ks ++ [s]).length d ∧ MI fp at_ rt bm W0 (ks ++ [s]) zs q d q4 d4 (W5.setCell ⟨bm, 3, none⟩ v) := by
  obtain ⟨q, d, rfl⟩ := owns_slice hown
  refine ⟨q, d, rfl, ?_⟩
  obtain ⟨v5, hv5⟩ : ∃ v5, Value.slice q (ks ++ [s]).length d = v5 := ⟨_, rfl⟩
  have hs2 := h.below.size
  have hal : Below W.heap.size W (W.alloc o) := (Below.refl _ W).alloc (Nat.le_refl _) _
  have hk1 := Kept.first hal hk
  have hbl := h.box.lt
  rw [World.size_alloc] at hat
  have h1 : (Value.slice q (ks ++ [s]).length d).ownBlock ≠ some bm := fun e => by
    rcases hat with h' | h'
    · exact h.n3 (h' ▸ e)
    · rw [h'] at e; cases e; omega
  have h2 : ∀ b, (Value.slice q (ks ++ [s]).length d).ownBlock = some b → (Value.slice q4 zs.length d4).ownBlock ≠ some b := fun b hb e => by
    rcases hat with h' | h'
    · exact h.ne b (h' ▸ hb) e
    · rw [h'] at hb; cases hb; have := (h.own2.lt _ e).2; omega
  rw [hv5] at hown hat h1 ⊢
  have hkb : Kept (fun b => b = bm) W5 (W5.setCell ⟨bm, 3, none⟩ v5) := (Kept.refl (fun b => b = bm) W5).setCell _ _ (fun _ => rfl)
  subst hv5
  refine ⟨(h.box.kept hk1 h.n3).set _, owns_keep hown (fun b e => hkb.block b (hown.lt b e).2 (fun e' => h1 (by rw [e, e']))), ?_, h1, h.n4, h2, ?_⟩
  · refine owns_keep h.own2 (fun b e => ?_)
    have hlt := (h.own2.lt b e).2
    exact (hkb.block b (Nat.lt_of_lt_of_le hlt hk1.size) (fun e' => h.n4 (by rw [e, e']))).trans (hk1.block b hlt (fun e' => h.ne b e' e))
  · exact h.below.trans ((hk1.below (fun b e => (h.own1.lt b e).1) hs2).trans (hkb.below (fun b e => by omega) (Nat.le_trans hs2 hk1.size)))
/-- a Since more -/
theorem MI.since {z : Int} {v : Value} {o : Obj} (h : MI fp at_ rt bm W0 ks zs q3 d3 q4 d4 W) (hbm : W0.heap.size ≤ bm) (hown : W5.ownsRow W0.heap.size 3 1 v (zs ++ [z]).length ((zs ++ [z]).flatMap encJ)) (hk : Kept (fun b => (Value.slice q4 zs.length d4).ownBlock = some b) (W.alloc o) W5) (hat : v.ownBlock = (Value.slice q4 zs.length d4).ownBlock ∨ v.ownBlock = some (W.alloc o).heap.size) :
    ∃ q d, v = .slice q (zs ++ [z]).length d ∧ MI fp at_ rt bm W0 ks (zs ++ [z]) q3 d3 q d (W5.setCell ⟨bm, 4, none⟩ v) := by
  obtain ⟨q, d, rfl⟩ := owns_slice hown
  refine ⟨q, d, rfl, ?_⟩
  obtain ⟨h1, h2, h3, ⟨h4, h5⟩, h6⟩ := msg_round h.box h.own1 h.own2 h.n4 h.ne h.below hbm h.n3 hown hk hat
  exact ⟨h1, h2, h3, h.n3, h4, h5, h6⟩
end
set_option maxRecDepth 100000 in
set_option maxHeartbeats 4000000 in
theorem rmessage_any {S T : Nat → Prop} {R : Rl} {fp at_ : Int} {v1 v2 : Value} {l : List Al} {keys : List ByteArray} {w : World} (h1 : Sl S w v1 5 encA l) (h2 : Sl T w v2 1 encS keys) (hn1 : l.length ≤ 100000) (hn2 : keys.length ≤ 100000) :
    Calls Try.prog 13 #[rv R, .int .u32 fp, v1, v2, .int .i64 at_] w (MsgTo (msgOf R fp l keys at_) w) := by
  have hb0 : Below w.heap.size w ((w.alloc (.cells (rc R) 25)).alloc (.cells zm 33)) := ((Below.refl _ w).alloc (Nat.le_refl _) _).alloc (by simp) _
  have b5 := (Box.new w (rc R) 25).alloc (.cells zm 33)
  have b10 := Box.new (w.alloc (.cells (rc R) 25)) zm 33
  rw [World.size_alloc] at b10
  obtain ⟨W0, hW0⟩ : ∃ W0, ((w.alloc (.cells (rc R) 25)).alloc (.cells zm 33)) = W0 := ⟨_, rfl⟩
  have hs0 : W0.heap.size = w.heap.size + 2 := by rw [← hW0]; simp
  rw [hW0] at hb0 b5 b10
  have HW0 := Lib.hid hW0
  have HS0 := Lib.hid hs0
  have HB0 := Lib.hid hb0
  have H5 := Lib.hid b5
  have H10 := Lib.hid b10
  have H1 := Lib.hid (h1.below hb0)
  have H2 := Lib.hid ((h2.below hb0).mono (T := fun b => b < W0.heap.size) (fun b hb _ => hb))
  obtain ⟨p1, c1, rfl, -, -⟩ := h1.len
  obtain ⟨p2, c2, rfl, -, -⟩ := h2.len
  obtain ⟨bq, hbq⟩ : ∃ bq, bq = w.heap.size := ⟨_, rfl⟩
  have HBQ := Lib.hid hbq
  have hl5 := b5.lt
  obtain ⟨nm, by0, nv, fr, ev, rp, mvv, mu, rt⟩ := R
  clear h1 h2 hb0 hW0 hs0 b5 b10 hbq
  go_enter Try.func13, Try.ntmps13
  go_upto_region 1 with fail
  rw [HW0.out, ← HBQ.out]
  have c5 := H5.out.rd.1
  rw [← HBQ.out] at c5 hl5
  go_wp2_with fail
  have b11 := Box.new W0 #[.int .u32 fp, .string rt, .int .i64 at_, .slice none 0 0, .slice none 0 0] 33
  have hb11 : Below W0.heap.size W0 (W0.alloc (.cells #[.int .u32 fp, .string rt, .int .i64 at_, .slice none 0 0, .slice none 0 0] 33)) := (Below.refl _ W0).alloc (Nat.le_refl _) _
  have hMI0 : MI fp at_ rt W0.heap.size W0 [] [] none 0 none 0 (W0.alloc (.cells #[.int .u32 fp, .string rt, .int .i64 at_, .slice none 0 0, .slice none 0 0] 33)) :=
    ⟨b11, World.ownsRow_nil _ _ _ _, World.ownsRow_nil _ _ _ _, (fun e => by cases e), (fun e => by cases e), (fun b e => by cases e), hb11⟩
  obtain ⟨bm, hbm⟩ : ∃ bm, bm = W0.heap.size := ⟨_, rfl⟩
  have hbs : W0.heap.size ≤ bm := by omega
  rw [← hbm] at hMI0 ⊢
  obtain ⟨i0, hi, hi0, hi1, hi2⟩ := info_parts info_int
  have HI := Lib.hid hi
  have HI0 := Lib.hid hi0
  have HI1 := Lib.hid hi1
  have HI2 := Lib.hid hi2
  obtain ⟨j0, hj, hj0, hj1, hj2⟩ := info_parts info_string
  have HJ := Lib.hid hj
  have HJ0 := Lib.hid hj0
  have HJ1 := Lib.hid hj1
  have HJ2 := Lib.hid hj2
  clear b11 hb11 hbm c5 hl5 hi hi0 hi1 hi2 hj hj0 hj1 hj2
  go_loopw [12, 13, 14] (fun iv_ _ _ wr => ∃ (k : Nat) (ks : List ByteArray) (zs : List Int) (q3 : Option Addr) (d3 : Nat) (q4 : Option Addr) (d4 : Nat), iv_ = .int .i64 k ∧ k ≤ keys.length ∧ ks = keys.take k ∧ ks.length = k ∧ zs = ks.map (sinceOf l) ∧ MI fp at_ rt bm W0 ks zs q3 d3 q4 d4 wr) (fun iv_ _ _ _ => keys.length - (intOf iv_).toNat)
  · exact ⟨0, [], [], none, 0, none, 0, rfl, by omega, rfl, rfl, rfl, hMI0⟩
  clear hMI0
  obtain ⟨k, ks, zs, q3, d3, q4, d4, rfl, hk, hks, hkl, hzs, hM⟩ := hrel
  have HKS := Lib.hid hks
  have HKL := Lib.hid hkl
  have HZS := Lib.hid hzs
  have HM := Lib.hid hM
  clear hks hkl hzs hM
  by_cases hlt : k < keys.length
  · obtain ⟨x, hx⟩ : ∃ x, keys[k]? = some x := ⟨_, List.getElem?_eq_getElem hlt⟩
    have hkk : (k : Int) < (keys.length : Int) := by omega
    have HX := Lib.hid hx
    clear hx
    obtain ⟨Wo, hWo⟩ : ∃ Wo, Wo = wr := ⟨_, rfl⟩
    rw [← hWo] at HM ⊢
    clear hWo wr
    go_wp2_with fail
    go_loopw [13, 14] (fun sv_ jv_ wr2 => ∃ j : Nat, jv_ = .int .i64 ((j : Int) - 1) ∧ j ≤ l.length ∧ sv_ = .int .i64 (sinceOf (l.drop j) x) ∧ Below Wo.heap.size Wo wr2) (fun _ jv_ _ => (intOf jv_ + 1).toNat)
    · exact ⟨l.length, by simp, by omega, by rw [List.drop_length]; rfl, Below.refl _ _⟩
    obtain ⟨j, rfl, hj, rfl, hB⟩ := hrel
    have HB := Lib.hid hB
    clear hB
    by_cases hj0 : 0 < j
    · obtain ⟨j1, rfl⟩ : ∃ j1, j = j1 + 1 := ⟨j - 1, by omega⟩
      have hjs : ((j1 + 1 : Nat) : Int) - 1 = (j1 : Int) := by omega
      rw [hjs]
      obtain ⟨y, hy⟩ : ∃ y, l[j1]? = some y := ⟨_, List.getElem?_eq_getElem (by omega)⟩
      obtain ⟨⟨r, by_, st, si, t⟩, hyy⟩ : ∃ y', y = y' := ⟨_, rfl⟩
      subst hyy
      have hbw := HM.out.below.trans (HB.out.mono HM.out.below.size)
      obtain ⟨ad, rfl, -, -, hrow⟩ := (H1.out.below hbw).at hy
      obtain ⟨y0, y1, y2, y3, y4⟩ := cells_A hrow hy
      obtain ⟨ad2, rfl, -, -, hrow2⟩ := (H2.out.below hbw).at HX.out
      have x0 := hrow2 k _ HX.out 0 _ rfl
      rw [Addr.add_zero', Nat.mul_one] at x0
      simp only at y1 y3
      have hjj : (j1 : Int) < (l.length : Int) := by omega
      have hj0' : (0 : Int) ≤ (j1 : Int) := by omega
      have hsc := since_cons ⟨r, by_, st, si, t⟩ (l.drop (j1 + 1)) x
      rw [← drop_at hy] at hsc
      have HSC := Lib.hid hsc
      have hk0 : (0 : Int) ≤ (k : Int) := by omega
      clear hrow hrow2 hy y0 y2 y4 hsc hbw
      by_cases hq : by_ = x
      · subst hq
        have HE : Hid (sinceOf (l.drop j1) by_ = si) := Lib.hid (by rw [HSC.out]; unfold isBy; simp)
        go_wp2_with fail
        refine wp_region_ordH [0, 1, 2, 3, 4, 5, 6, 7, 8, 9] (fun w' => Below wr.heap.size wr w') (by kernel_rfl) (by kernel_rfl) ?_
        have hb0 : Below wr.heap.size wr wr.drew := (Below.refl _ wr).drew
        iterate 10 ((first | (refine ordH_free (v := ?_) rfl (by kernel_rfl) (fun _ _ _ h => h) (Or.inl ⟨rfl, fun w' hS => ?_⟩) hb0 ?_; rotate_left; (have x0 := cell_below x0 hS; have y1 := cell_below y1 hS; go_simp <;> with_reducible rfl)) | (refine ordH_free (v := undef) rfl (by kernel_rfl) (fun _ _ _ h => h) (Or.inr ⟨rfl, rfl⟩) hb0 ?_)); (simp only [Act.put, List.setIfInBounds_toArray, List.set_cons_zero, List.set_cons_succ]))
        refine ⟨by kernel_rfl, ?_⟩
        have y3 := cell_below y3 hb0
        have HB1 := Lib.hid (below_then HB.out hb0)
        clear x0 y1 hb0
        go_wp2_with fail
        exact ⟨⟨j1, by simp, by omega, by rw [HE.out], HB1.out⟩, by simp [intOf]⟩
      · have hne := str_ne hq
        have HE : Hid (sinceOf (l.drop j1) x = sinceOf (l.drop (j1 + 1)) x) := Lib.hid (by rw [HSC.out]; unfold isBy; simp [hq])
        clear hq
        go_wp2_with fail
        refine wp_region_ordH [0, 1, 2, 3, 4, 5, 6, 7, 8, 9] (fun w' => Below wr.heap.size wr w') (by kernel_rfl) (by kernel_rfl) ?_
        have hb0 : Below wr.heap.size wr wr.drew := (Below.refl _ wr).drew
        iterate 10 ((first | (refine ordH_free (v := ?_) rfl (by kernel_rfl) (fun _ _ _ h => h) (Or.inl ⟨rfl, fun w' hS => ?_⟩) hb0 ?_; rotate_left; (have x0 := cell_below x0 hS; have y1 := cell_below y1 hS; go_simp <;> with_reducible rfl)) | (refine ordH_free (v := undef) rfl (by kernel_rfl) (fun _ _ _ h => h) (Or.inr ⟨rfl, rfl⟩) hb0 ?_)); (simp only [Act.put, List.setIfInBounds_toArray, List.set_cons_zero, List.set_cons_succ]))
        refine ⟨by kernel_rfl, ?_⟩
        have HB1 := Lib.hid (below_then HB.out hb0)
        clear x0 y1 y3 hb0 hne
        go_wp2_with fail
        exact ⟨⟨j1, by simp, by omega, by rw [HE.out], HB1.out⟩, by simp [intOf]⟩
    · obtain rfl : j = 0 := by omega
      have hm1 : ((0 : Nat) : Int) - 1 = -1 := rfl
      rw [hm1, List.drop_zero]
      obtain ⟨sv, hsv⟩ : ∃ sv, sinceOf l x = sv := ⟨_, rfl⟩
      rw [hsv]
      have HSV := Lib.hid hsv
      have HM2 := Lib.hid (HM.out.later HB.out)
      clear hsv hm1 hj0 hj
      go_wp2_with fail
      have hbw := HM2.out.below
      obtain ⟨ad2, rfl, -, hadb, hrow2⟩ := (H2.out.below hbw).at HX.out
      have x0 := hrow2 k _ HX.out 0 _ rfl
      rw [Addr.add_zero', Nat.mul_one] at x0
      have hk0 : (0 : Int) ≤ (k : Int) := by omega
      have hkm : ks.length ≤ 100000 := by have := HKL.out; omega
      have hzm : zs.length ≤ 100000 := by rw [HZS.out, List.length_map]; exact hkm
      have HBX := Lib.hid HM2.out.box
      have hWs := HM2.out.below.size
      have hbl := HM2.out.box.lt
      have HXL : Hid ((ad2.add k).block < wr.heap.size) := Lib.hid (World.block_lt_of_cell? _ _ x0)
      have HXB : Hid ((Value.slice q3 ks.length d3).ownBlock ≠ some (ad2.add k).block) := Lib.hid (fun e => by have h1 := (HM2.out.own1.lt _ e).1; rw [show (ad2.add k).block = ad2.block from add_block' _ _] at h1; have h2 : ad2.block < W0.heap.size := hadb; omega)
      clear hrow2 hbw
      refine wp_region_ord [0, 1, 2, 3, 4, 5, 6, 7, 8, 9] (fun w' => Kept (fun b => (Value.slice q3 ks.length d3).ownBlock = some b) wr w') 9 (by kernel_rfl) (by kernel_rfl) ?_
      have hb0 : Kept (fun b => (Value.slice q3 ks.length d3).ownBlock = some b) wr wr.drew := (Kept.refl _ wr).drew
      iterate 6 ((first | (refine wpOrd_free (v := ?_) rfl (by kernel_rfl) (fun _ _ _ h => h) (Or.inl ⟨rfl, fun w' hS => ?_⟩) hb0 ?_; rotate_left; (have x0 := (hS.cell HXL.out HXB.out).trans x0; have c := (HBX.out.kept hS HM2.out.n3).rd.1; go_simp <;> with_reducible rfl)) | (refine wpOrd_free (v := undef) rfl (by kernel_rfl) (fun _ _ _ h => h) (Or.inr ⟨rfl, rfl⟩) hb0 ?_)); (simp only [Act.put, List.setIfInBounds_toArray, List.set_cons_zero, List.set_cons_succ]))
      refine wpOrd_sole rfl (by kernel_rfl) rfl (fun K hK => ?_)
      go_simp
      have hal : Below wr.heap.size wr (wr.drew.alloc (.cells #[.string x] 9)) := (Below.refl _ wr).drew.alloc (Nat.le_refl _) _
      refine hK _ _ (.inr (kept_of_below hal)) ?_
      clear hK K
      refine wpOrd_sole rfl (by kernel_rfl) rfl (fun K hK => ?_)
      refine wp_append_sl encS_len (.tmp 49) (.tmp 54) 23 (by rfl) W0.heap.size 9 j0 _ 16 Try.underlying23 HJ.out HJ0.out HJ1.out HJ2.out (by rfl) (by decide) (v := .slice q3 ks.length d3) (xs := ks) (ys := [x]) (by rfl) (by rfl) (owns_keep HM2.out.own1 (fun b e => hal.block b (HM2.out.own1.lt b e).2)) (Sl.one (S := fun _ => True) encS_len (Box.new _ _ _) rfl trivial) (by simp [Value.oneCell']) (by simp only [List.length_cons, List.length_nil]; unfold maxLen; omega) (by simp only [List.length_cons, List.length_nil]; omega) (Nat.le_trans hWs hal.size) ?_
      intro v5 w5 hown hk3 hat
      have hk2 := Kept.first hal hk3
      refine hK _ _ (.inr hk2) ?_
      clear hK K
      simp only [Act.put, List.setIfInBounds_toArray]
      obtain ⟨q5, d5, hv5, hMK⟩ := (HM2.out.later (Below.refl _ wr).drew).key hbs hown hk3 hat
      subst hv5
      have c := (HBX.out.kept hk2 HM2.out.n3).rd.1
      have z := (HBX.out.kept hk2 HM2.out.n3).rd.2
      iterate 1 ((first | (refine wpOrd_free (v := ?_) rfl (by kernel_rfl) (fun _ _ _ h => h) (Or.inl ⟨rfl, fun w' hS => ?_⟩) hk2 ?_; rotate_left; (skip; go_simp <;> with_reducible rfl)) | (refine wpOrd_free (v := undef) rfl (by kernel_rfl) (fun _ _ _ h => h) (Or.inr ⟨rfl, rfl⟩) hk2 ?_)); (simp only [Act.put, List.setIfInBounds_toArray, List.set_cons_zero, List.set_cons_succ]))
      refine wpOrd_sole rfl (by kernel_rfl) rfl (fun K hK => ?_)
      go_simp
      refine hK _ _ (.inl rfl) ?_
      clear hK K
      refine ⟨by kernel_rfl, ?_⟩
      have hle : (ks ++ [x]).length = ks.length + 1 := by simp
      rw [hle] at hMK
      have HMK := Lib.hid hMK
      refine exit_gen (fun W => W = w5.setCell ⟨bm, 3, none⟩ (.slice q5 (ks.length + 1) d5)) rfl ?_
      rintro W6 hW6
      rw [← hW6] at hMK
      have hbx6 : Box W6 bm #[.int .u32 fp, .string rt, .int .i64 at_, .slice q5 (ks.length + 1) d5, .slice q4 zs.length d4] 33 := by have := hMK.box; rw [hle] at this; exact this
      obtain ⟨c6, z6⟩ := hbx6.rd
      have hbl6 := hbx6.lt
      have HM6 := Lib.hid hMK
      have hWs6 := hMK.below.size
      clear hMK HMK hW6 hbx6 c z hal hb0 hown hk3 hat hk2 x0 hbl hWs hle
      go_wp2_with (at_builtin; refine wpList_append_sl encJ_len rfl (.tmp 58) (.tmp 60) 31 rfl W0.heap.size 3 i0 _ 8 Try.underlying31 HI.out HI0.out HI1.out HI2.out rfl (by decide) (v := .slice q4 zs.length d4) (xs := zs) (ys := [sv]) (by rfl) (by rfl) (owns_keep HM6.out.own2 (fun b e => Below.heap_alloc _ _ _ (HM6.out.own2.lt b e).2)) (Sl.one (S := fun _ => True) encJ_len (Box.new _ _ _) rfl trivial) (by simp [Value.oneCell']) (by simp only [List.length_cons, List.length_nil]; unfold maxLen; omega) (by simp only [List.length_cons, List.length_nil]; omega) (by rw [World.size_alloc]; exact Nat.le_succ_of_le hWs6) ?_; intro v7 w7 hown7 hk7 hat7; obtain ⟨q7, d7, hv7, hMS⟩ := HM6.out.since hbs hown7 hk7 hat7; subst hv7; have hbx7 := HM6.out.box.kept (Kept.first ((Below.refl _ W6).alloc (Nat.le_refl _) _) hk7) HM6.out.n4; obtain ⟨c7, z7⟩ := hbx7.rd; have hbl7 := hbx7.lt)
      have hle2 : (zs ++ [sv]).length = zs.length + 1 := by simp
      rw [hle2] at hMS
      refine ⟨⟨k + 1, ks ++ [x], zs ++ [sv], q5, d5, q7, d7, by simp, by omega, ?_, ?_, ?_, hMS⟩, by simp [intOf]; omega⟩
      · rw [take_snoc' HX.out, HKS.out]
      · rw [List.length_append, HKL.out]; rfl
      · rw [List.map_append, ← HZS.out, ← HSV.out]; rfl
  · obtain rfl : k = keys.length := by omega
    rw [List.take_length] at HKS
    have hB := HM.out.below
    have hb10 := (H10.out.below hB).rd
    have hl10 := (H10.out.below hB).lt
    rw [← HBQ.out] at hb10 hl10
    obtain ⟨c10, f10⟩ := hb10
    obtain ⟨c0, cf⟩ := HM.out.box.rd
    have hxl := HM.out.box.lt
    clear hB
    go_wp2_with fail
    have hkf := (((((Kept.refl (fun b => b = bq + 1) wr).setCell ⟨bq + 1, 0, none⟩ (.int .u32 fp) (fun _ => rfl)).setCell ⟨bq + 1, 1, none⟩ (.string rt) (fun _ => rfl)).setCell ⟨bq + 1, 2, none⟩ (.int .i64 at_) (fun _ => rfl)).setCell ⟨bq + 1, 3, none⟩ (.slice q3 ks.length d3) (fun _ => rfl)).setCell ⟨bq + 1, 4, none⟩ (.slice q4 zs.length d4) (fun _ => rfl)
    have h10 := H10.out.below HM.out.below
    rw [← HBQ.out] at h10
    have hbf : Box (((((wr.setCell ⟨bq + 1, 0, none⟩ (.int .u32 fp)).setCell ⟨bq + 1, 1, none⟩ (.string rt)).setCell ⟨bq + 1, 2, none⟩ (.int .i64 at_)).setCell ⟨bq + 1, 3, none⟩ (.slice q3 ks.length d3)).setCell ⟨bq + 1, 4, none⟩ (.slice q4 zs.length d4)) (bq + 1) #[.int .u32 fp, .string rt, .int .i64 at_, .slice q3 ks.length d3, .slice q4 zs.length d4] 33 := ((((h10.set _).set _).set _).set _).set _
    obtain ⟨WF, hWF⟩ : ∃ WF, ((((wr.setCell ⟨bq + 1, 0, none⟩ (.int .u32 fp)).setCell ⟨bq + 1, 1, none⟩ (.string rt)).setCell ⟨bq + 1, 2, none⟩ (.int .i64 at_)).setCell ⟨bq + 1, 3, none⟩ (.slice q3 ks.length d3)).setCell ⟨bq + 1, 4, none⟩ (.slice q4 zs.length d4) = WF := ⟨_, rfl⟩
    rw [hWF] at hkf hbf ⊢
    obtain ⟨r0, _⟩ := hbf.rd
    have e0 := HS0.out
    have e1 := HBQ.out
    refine bodyPost_ret (v := .agg #[.int .u32 fp, .string rt, .int .i64 at_, .slice q3 ks.length d3, .slice q4 zs.length d4]) ?_ rfl ?_
    · simp [results, Try.results13, go_sem, r0]
    · refine ⟨⟨.slice q3 ks.length d3, .slice q4 zs.length d4, ⟨fp, rt, at_, ks, zs⟩⟩, rfl, ?_, ⟨?_, ?_, HM.out.ne⟩, ?_⟩
      · show (⟨fp, rt, at_, ks, zs⟩ : Ms) = ⟨fp, rt, at_, keys, keys.map (sinceOf l)⟩
        rw [HZS.out, HKS.out]
      · exact owns_lower (owns_keep HM.out.own1 (fun b e => hkf.block b (HM.out.own1.lt b e).2 (by have := (HM.out.own1.lt b e).1; omega))) (by omega)
      · exact owns_lower (owns_keep HM.out.own2 (fun b e => hkf.block b (HM.out.own2.lt b e).2 (by have := (HM.out.own2.lt b e).1; omega))) (by omega)
      · exact HB0.out.trans (((HM.out.below.mono HB0.out.size)).trans (hkf.below (fun b e => by omega) (by have := HM.out.below.size; omega)))
end Go.Proofs.Ytajflljemfgkiaa

/- OweTells' walk -/
import Derived.Test.YtajflljemfgkiaaEGrt
namespace Go.Proofs.Ytajflljemfgkiaa
open Go.RowKit Mut
attribute [local go_sem] Oper.semAt_some

abbrev zeroR : Rl := ⟨⟨#[]⟩, ⟨#[]⟩, .slice none 0 0, 0, 0, 0, .slice none 0 0, [], ⟨#[]⟩⟩
theorem zeroR_ro (S : Nat → Prop) (W : World) : Ro S W zeroR := ⟨Sl.nil S W, rfl⟩
theorem own_apart {W : World} {base1 base2 : Nat} {e1 e2 : TypeId} {s1 s2 n1 n2 : Nat} {v1 v2 : Value} {xs1 xs2 : List Value} (h1 : W.ownsRow base1 e1 s1 v1 n1 xs1) (h2 : W.ownsRow base2 e2 s2 v2 n2 xs2) (he : e1 ≠ e2) : ∀ b, v1.ownBlock = some b → v2.ownBlock ≠ some b := by
  intro b hb1 hb2
  rcases h1.2 with ⟨rfl, _⟩ | ⟨g, cap, cur, rfl, _, hg, _⟩
  · cases hb1
  · rcases h2.2 with ⟨rfl, _⟩ | ⟨g2, cap2, cur2, rfl, _, hg2, _⟩
    · cases hb2
    · cases hb1
      cases hb2
      rw [hg] at hg2
      simp at hg2
      exact he hg2.2
theorem box_apart {W : World} {base n b : Nat} {e t : TypeId} {s : Nat} {v : Value} {xs : List Value} {cs : Array Value} (h : W.ownsRow base e s v n xs) (hx : Box W b cs t) (he : e ≠ t) : v.ownBlock ≠ some b := by
  intro hb
  rcases h.2 with ⟨rfl, _⟩ | ⟨g, cap, cur, rfl, _, hg, _⟩
  · cases hb
  · cases hb
    rw [show W.heap[g]? = _ from hx] at hg
    simp at hg
    exact he hg.2.symm
/-- alerts and a message that were made -/
def Made (W3 : World) (al : List Al) (M : Ms) (tv mv_ : Value) (wx : World) : Prop := ∃ pt ct bm r, tv = .slice pt al.length ct ∧ mv_ = .pointer (some ⟨bm, 0, none⟩) ∧ wx.ownsRow W3.heap.size 39 5 (.slice pt al.length ct) al.length (al.flatMap encA) ∧ Box wx bm (mc r) 33 ∧ Mw W3.heap.size wx r ∧ r.m = M ∧ W3.heap.size ≤ bm ∧ Below W3.heap.size W3 wx
theorem made_mk {W3 Wx W' : World} {al : List Al} {M : Ms} {pt : Option Addr} {ct bm b1 b2 : Nat} {r : Mr} (hrow : Wx.ownsRow b1 39 5 (.slice pt al.length ct) al.length (al.flatMap encA)) (h1 : W3.heap.size ≤ b1) (hm : Mw b2 Wx r) (h2 : W3.heap.size ≤ b2) (hk : Kept (fun b => b = bm) Wx W') (hbx : Box W' bm (mc r) 33) (hbz : Wx.heap.size ≤ bm ∨ Box Wx bm zm 33) (hbm : W3.heap.size ≤ bm) (hb : Below W3.heap.size W3 Wx) (hM : r.m = M) :
    Made W3 al M (.slice pt al.length ct) (.pointer (some ⟨bm, 0, none⟩)) W' := by
  have n1 : ∀ b, (Value.slice pt al.length ct).ownBlock = some b → b ≠ bm := fun b e => by
    rcases hbz with h | h
    · have := (hrow.lt b e).2; omega
    · exact fun e' => box_apart hrow h (by decide) (by rw [e, e'])
  have n2 : ∀ b, r.kv.ownBlock = some b → b ≠ bm := fun b e => by
    rcases hbz with h | h
    · have := (hm.k.lt b e).2; omega
    · exact fun e' => box_apart hm.k h (by decide) (by rw [e, e'])
  have n3 : ∀ b, r.sv.ownBlock = some b → b ≠ bm := fun b e => by
    rcases hbz with h | h
    · have := (hm.s.lt b e).2; omega
    · exact fun e' => box_apart hm.s h (by decide) (by rw [e, e'])
  exact ⟨pt, ct, bm, r, rfl, rfl, owns_lower (owns_keep hrow (fun b e => hk.block b (hrow.lt b e).2 (n1 b e))) h1, hbx, ⟨owns_lower (owns_keep hm.k (fun b e => hk.block b (hm.k.lt b e).2 (n2 b e))) h2, owns_lower (owns_keep hm.s (fun b e => hk.block b (hm.s.lt b e).2 (n3 b e))) h2, hm.ne⟩, hM, hbm, hb.trans (hk.below (fun b e => by omega) hb.size)⟩
/-- a message stored -/
def stored (W : World) (bm : Nat) (r : Mr) : World := ((((W.setCell ⟨bm, 0, none⟩ (.int .u32 r.m.rule)).setCell ⟨bm, 1, none⟩ (.string r.m.route)).setCell ⟨bm, 2, none⟩ (.int .i64 r.m.at_)).setCell ⟨bm, 3, none⟩ r.kv).setCell ⟨bm, 4, none⟩ r.sv
theorem stored_box {W : World} {bm : Nat} {r : Mr} (h : Box W bm zm 33) : Box (stored W bm r) bm (mc r) 33 := ((((h.set _).set _).set _).set _).set _
theorem stored_kept (W : World) (bm : Nat) (r : Mr) : Kept (fun b => b = bm) W (stored W bm r) :=
  (((((Kept.refl (fun b => b = bm) W).setCell ⟨bm, 0, none⟩ (.int .u32 r.m.rule) (fun _ => rfl)).setCell ⟨bm, 1, none⟩ (.string r.m.route) (fun _ => rfl)).setCell ⟨bm, 2, none⟩ (.int .i64 r.m.at_) (fun _ => rfl)).setCell ⟨bm, 3, none⟩ r.kv (fun _ => rfl)).setCell ⟨bm, 4, none⟩ r.sv (fun _ => rfl)
/-- what stands from the first turn on -/
structure TT (w : World) (R : Rl) (at_ : Int) (l : List Al) (keys : List ByteArray) (vl vk vm vn vt : Value) (bm : Nat) (r : Mr) (W : World) : Prop where
  below : Below w.heap.size w W
  b5 : Box W w.heap.size (rc R) 25
  sl : Sl (fun _ => True) W vl 5 encA l
  sk : Sl (fun _ => True) W vk 1 encS keys
  mine : Sl (fun _ => True) W vm 5 encA l
  names : Sl (fun _ => True) W vn 1 encS keys
  told : Sl (fun _ => True) W vt 5 encA (tellL l keys at_)
  want : Box W bm (mc r) 33
  mo : Mo (fun _ => True) W r
theorem TT.later {w : World} {R : Rl} {at_ : Int} {l : List Al} {keys : List ByteArray} {vl vk vm vn vt : Value} {bm : Nat} {r : Mr} {W W' : World} (h : TT w R at_ l keys vl vk vm vn vt bm r W) (hb : Below W.heap.size W W') : TT w R at_ l keys vl vk vm vn vt bm r W' :=
  ⟨h.below.trans (hb.mono h.below.size), h.b5.below hb, h.sl.below hb, h.sk.below hb, h.mine.below hb, h.names.below hb, h.told.below hb, h.want.below hb, h.mo.below hb⟩
theorem Mo.open {S : Nat → Prop} {W : World} {r : Mr} (h : Mo S W r) : ∃ p1 c1 p2 c2, r = ⟨.slice p1 r.m.ks.length c1, .slice p2 r.m.ss.length c2, r.m⟩ := by
  obtain ⟨p1, c1, h1, -, -⟩ := h.k.len
  obtain ⟨p2, c2, h2, -, -⟩ := h.s.len
  exact ⟨p1, c1, p2, c2, by rw [← h1, ← h2]⟩
theorem tellL_len (l : List Al) (keys : List ByteArray) (at_ : Int) : (tellL l keys at_).length = l.length := by unfold tellL; rw [List.length_map]
set_option maxRecDepth 100000 in
set_option maxHeartbeats 8000000 in
theorem oweTells_any {R : Rl} {fp at_ : Int} {v2 v3 : Value} {l : List Al} {keys : List ByteArray} {w : World} (hr : Ro (fun _ => True) w R) (_ : (Lit.int .u32 fp).wf = true) (h2 : Sl (fun _ => True) w v2 5 encA l) (h3 : Sl (fun _ => True) w v3 1 encS keys) (_ : (Lit.int .i64 at_).wf = true) :
    Calls Try.prog 3 #[rv R, .int .u32 fp, v2, v3, .int .i64 at_] w (Tells (.bool true) w) := by
  have hnv := hr.n
  have hmv := hr.m.oneCell
  have hb0 : Below w.heap.size w (w.alloc (.cells (rc R) 25)) := (Below.refl _ w).alloc (Nat.le_refl _) _
  have b5 := Box.new w (rc R) 25
  have H2 := Lib.hid (h2.below hb0)
  have H3 := Lib.hid (h3.below hb0)
  obtain ⟨p2, c2, rfl, -, -⟩ := h2.len
  obtain ⟨p3, c3, rfl, -, -⟩ := h3.len
  obtain ⟨W0, hW0⟩ : ∃ W0, (w.alloc (.cells (rc R) 25)) = W0 := ⟨_, rfl⟩
  rw [hW0] at hb0 b5 H2 H3
  have HGR := Lib.hid (great_any (ms := []) (v2 := .slice none 0 0) (zeroR_ro (fun _ => True) W0) (Sl.nil (fun _ => True) W0) H2.out H3.out)
  have HW0 := Lib.hid hW0
  have HB0 := Lib.hid hb0
  have H5 := Lib.hid b5
  obtain ⟨nm, by0, nv, fr, ev, rp, mvv, mu, rt⟩ := R
  simp only at hnv hmv
  clear hr h2 h3 hb0 b5 hW0
  go_enter Try.func3, Try.ntmps3
  go_wp2_with fail
  rw [HW0.out]
  refine HGR.out.mono ?_
  rintro e w1 ⟨bg, rfl, hbg, hb⟩
  have HB1 := Lib.hid (HB0.out.trans (hb.mono HB0.out.size))
  cases bg with
  | true =>
    clear hbg hb
    go_wp2_with fail
    go_ret
    exact ⟨rfl, HB1.out⟩
  | false =>
    obtain ⟨⟨g1, g2, -, -⟩, g3, g4, -, -⟩ := hbg rfl
    have H21 := Lib.hid (H2.out.below hb)
    have H31 := Lib.hid (H3.out.below hb)
    have H51 := Lib.hid (H5.out.below hb)
    have HS1 : Hid (∀ x ∈ l, x.by_.size ≤ maxLen) := Lib.hid fun x hx => by have := g3 x hx; unfold maxLen; omega
    have HS2 : Hid (∀ s ∈ keys, s.size ≤ maxLen) := Lib.hid fun s hs => by have := g4 s hs; unfold maxLen; omega
    have HCP := Lib.hid (copy_any H21.out (by omega))
    clear hbg hb g3 g4 HGR HW0 HB0 H2 H3 H5
    go_wp2_with fail
    refine HCP.out.mono ?_
    rintro e w2 ⟨vm, rfl, hom, hb⟩
    obtain ⟨pm, cm, rfl⟩ := owns_slice hom
    have HMI := Lib.hid ((Sl.owned encA_len hom).mono (T := fun _ => True) (fun _ _ _ => trivial))
    have H22 := Lib.hid (H21.out.below hb)
    have H32 := Lib.hid (H31.out.below hb)
    have H52 := Lib.hid (H51.out.below hb)
    have HB2 := Lib.hid (HB1.out.trans (hb.mono HB1.out.size))
    obtain ⟨j0, hj, hj0, hj1, hj2⟩ := info_parts info_string
    have HJ := Lib.hid hj
    have HJ0 := Lib.hid hj0
    have HJ1 := Lib.hid hj1
    have HJ2 := Lib.hid hj2
    clear hom hb hj hj0 hj1 hj2 H21 H31 H51 HB1 HCP
    go_wp2_with (at_builtin; refine wpList_append_sl encS_len rfl (.tmp 26) (.tmp 27) 23 rfl w2.heap.size 9 j0 _ 16 Try.underlying23 HJ.out HJ0.out HJ1.out HJ2.out rfl (by decide) (v := .slice none 0 0) (xs := []) (ys := keys) rfl rfl (World.ownsRow_nil _ _ _ _) H32.out (by simp [Value.oneCell']) (by unfold maxLen; simp; omega) (by simp; omega) (Nat.le_refl _) ?_; intro v3 w3 hon hk3 hat3; obtain ⟨pn, cn, rfl⟩ := owns_slice hon)
    rw [List.nil_append] at hon
    have HNA := Lib.hid ((Sl.owned encS_len hon).mono (T := fun _ => True) (fun _ _ _ => trivial))
    have hb3 : Below w2.heap.size w2 w3 := hk3.below (fun k e => by cases e) (Nat.le_refl _)
    have HMI3 := Lib.hid (HMI.out.below hb3)
    have H23 := Lib.hid (H22.out.below hb3)
    have H33 := Lib.hid (H32.out.below hb3)
    have H53 := Lib.hid (H52.out.below hb3)
    have HB3 := Lib.hid (HB2.out.trans (hb3.mono HB2.out.size))
    have QA : Hid (∀ W, Below w3.heap.size w3 W → Calls Try.prog 12 #[.slice p2 l.length c2, .slice p3 keys.length c3, .int .i64 at_] W (OwnsA (tellL l keys at_) W)) := Lib.hid fun W hb => rtell_any (H23.out.below hb) (H33.out.below hb) (by omega) (by omega)
    have QB : Hid (∀ W, Below w3.heap.size w3 W → Calls Try.prog 13 #[rv ⟨nm, by0, nv, fr, ev, rp, mvv, mu, rt⟩, .int .u32 fp, .slice p2 l.length c2, .slice p3 keys.length c3, .int .i64 at_] W (MsgTo (msgOf ⟨nm, by0, nv, fr, ev, rp, mvv, mu, rt⟩ fp l keys at_) W)) := Lib.hid fun W hb => rmessage_any (H23.out.below hb) (H33.out.below hb) (by omega) (by omega)
    clear hb3 hk3 hat3 hon HMI H22 H32 H52 HB2
    go_cut [13, 14] (fun tv mv_ wx => Made w3 (tellL l keys at_) (msgOf ⟨nm, by0, nv, fr, ev, rp, mvv, mu, rt⟩ fp l keys at_) tv mv_ wx)
    case first =>
      refine anyH_start 13 (fun w' => Below w3.heap.size w3 w') (by kernel_rfl) rfl ?_
      have hb0 : Below w3.heap.size w3 w3.drew := (Below.refl _ w3).drew
      ((first | (refine anyH_free (i := 0) (v := ?_) rfl (by kernel_rfl) (fun _ _ _ h => h) (Or.inl ⟨rfl, fun w' hS => ?_⟩) hb0 ?_; rotate_left; (have d0 := (H53.out.below hS).rd.1; go_simp <;> with_reducible rfl)) | (refine anyH_free (i := 0) (v := undef) rfl (by kernel_rfl) (fun _ _ _ h => h) (Or.inr ⟨rfl, rfl⟩) hb0 ?_)); (simp only [Act.put, List.setIfInBounds_toArray, List.set_cons_zero, List.set_cons_succ])); ((first | (refine anyH_free (i := 1) (v := ?_) rfl (by kernel_rfl) (fun _ _ _ h => h) (Or.inl ⟨rfl, fun w' hS => ?_⟩) hb0 ?_; rotate_left; (have d0 := (H53.out.below hS).rd.1; go_simp <;> with_reducible rfl)) | (refine anyH_free (i := 1) (v := undef) rfl (by kernel_rfl) (fun _ _ _ h => h) (Or.inr ⟨rfl, rfl⟩) hb0 ?_)); (simp only [Act.put, List.setIfInBounds_toArray, List.set_cons_zero, List.set_cons_succ])); ((first | (refine anyH_free (i := 2) (v := ?_) rfl (by kernel_rfl) (fun _ _ _ h => h) (Or.inl ⟨rfl, fun w' hS => ?_⟩) hb0 ?_; rotate_left; (have d0 := (H53.out.below hS).rd.1; go_simp <;> with_reducible rfl)) | (refine anyH_free (i := 2) (v := undef) rfl (by kernel_rfl) (fun _ _ _ h => h) (Or.inr ⟨rfl, rfl⟩) hb0 ?_)); (simp only [Act.put, List.setIfInBounds_toArray, List.set_cons_zero, List.set_cons_succ])); ((first | (refine anyH_free (i := 4) (v := ?_) rfl (by kernel_rfl) (fun _ _ _ h => h) (Or.inl ⟨rfl, fun w' hS => ?_⟩) hb0 ?_; rotate_left; (have d0 := (H53.out.below hS).rd.1; go_simp <;> with_reducible rfl)) | (refine anyH_free (i := 4) (v := undef) rfl (by kernel_rfl) (fun _ _ _ h => h) (Or.inr ⟨rfl, rfl⟩) hb0 ?_)); (simp only [Act.put, List.setIfInBounds_toArray, List.set_cons_zero, List.set_cons_succ])); ((first | (refine anyH_free (i := 5) (v := ?_) rfl (by kernel_rfl) (fun _ _ _ h => h) (Or.inl ⟨rfl, fun w' hS => ?_⟩) hb0 ?_; rotate_left; (have d0 := (H53.out.below hS).rd.1; go_simp <;> with_reducible rfl)) | (refine anyH_free (i := 5) (v := undef) rfl (by kernel_rfl) (fun _ _ _ h => h) (Or.inr ⟨rfl, rfl⟩) hb0 ?_)); (simp only [Act.put, List.setIfInBounds_toArray, List.set_cons_zero, List.set_cons_succ])); ((first | (refine anyH_free (i := 6) (v := ?_) rfl (by kernel_rfl) (fun _ _ _ h => h) (Or.inl ⟨rfl, fun w' hS => ?_⟩) hb0 ?_; rotate_left; (have d0 := (H53.out.below hS).rd.1; go_simp <;> with_reducible rfl)) | (refine anyH_free (i := 6) (v := undef) rfl (by kernel_rfl) (fun _ _ _ h => h) (Or.inr ⟨rfl, rfl⟩) hb0 ?_)); (simp only [Act.put, List.setIfInBounds_toArray, List.set_cons_zero, List.set_cons_succ])); ((first | (refine anyH_free (i := 7) (v := ?_) rfl (by kernel_rfl) (fun _ _ _ h => h) (Or.inl ⟨rfl, fun w' hS => ?_⟩) hb0 ?_; rotate_left; (have d0 := (H53.out.below hS).rd.1; go_simp <;> with_reducible rfl)) | (refine anyH_free (i := 7) (v := undef) rfl (by kernel_rfl) (fun _ _ _ h => h) (Or.inr ⟨rfl, rfl⟩) hb0 ?_)); (simp only [Act.put, List.setIfInBounds_toArray, List.set_cons_zero, List.set_cons_succ])); ((first | (refine anyH_free (i := 8) (v := ?_) rfl (by kernel_rfl) (fun _ _ _ h => h) (Or.inl ⟨rfl, fun w' hS => ?_⟩) hb0 ?_; rotate_left; (have d0 := (H53.out.below hS).rd.1; go_simp <;> with_reducible rfl)) | (refine anyH_free (i := 8) (v := undef) rfl (by kernel_rfl) (fun _ _ _ h => h) (Or.inr ⟨rfl, rfl⟩) hb0 ?_)); (simp only [Act.put, List.setIfInBounds_toArray, List.set_cons_zero, List.set_cons_succ]))
      refine anyH_two (i := 3) (j := 10) rfl rfl (by kernel_rfl) rfl rfl (fun K hK => ?_) (fun K hK => ?_)
      · go_simp
        refine (QA.out _ hb0).mono ?_
        rintro e w4 ⟨va, rfl, hoa, hba⟩
        obtain ⟨pa, ca, rfl⟩ := owns_slice hoa
        have hb4 := hb0.trans (hba.mono hb0.size)
        refine hK _ _ hb4 ?_
        clear hK K
        refine anyH_two (i := 9) (j := 10) rfl rfl (by kernel_rfl) rfl rfl (fun K hK => ?_) (fun K hK => ?_)
        · go_simp
          refine (QB.out _ hb4).mono ?_
          rintro e w5 ⟨rb, rfl, hrm, hmw, hbb⟩
          obtain ⟨q1, d1, e51⟩ : ∃ q d, rb.kv = .slice q keys.length d := by obtain ⟨q, d, e⟩ := owns_slice hmw.k; exact ⟨q, d, by rw [e, hrm]; rfl⟩
          obtain ⟨q2, d2, e52⟩ : ∃ q d, rb.sv = .slice q keys.length d := by obtain ⟨q, d, e⟩ := owns_slice hmw.s; exact ⟨q, d, by rw [e, hrm]; simp [msgOf]⟩
          have hb5 := hb4.trans (hbb.mono hb4.size)
          obtain ⟨kv5, sv5, m5⟩ := rb
          simp only at hrm e51 e52
          subst hrm e51 e52
          refine hK _ _ hb5 ?_
          clear hK K
          refine anyH_sole (i := 10) rfl (by kernel_rfl) rfl (fun K hK => ?_)
          go_simp
          have hb6 := hb5.alloc hb5.size (.cells zm 33)
          refine hK _ _ hb6 ?_
          clear hK K
          ((first | (refine anyH_free (i := 11) (v := ?_) rfl (by kernel_rfl) (fun _ _ _ h => h) (Or.inl ⟨rfl, fun w' hS => ?_⟩) hb6 ?_; rotate_left; (skip; go_simp <;> with_reducible rfl)) | (refine anyH_free (i := 11) (v := undef) rfl (by kernel_rfl) (fun _ _ _ h => h) (Or.inr ⟨rfl, rfl⟩) hb6 ?_)); (simp only [Act.put, List.setIfInBounds_toArray, List.set_cons_zero, List.set_cons_succ]))
          obtain ⟨zz, zf⟩ := (Box.new w5 zm 33).rd
          have hzl : w5.heap.size < (w5.alloc (.cells zm 33)).heap.size := by simp
          refine anyH_sole (i := 12) rfl (by kernel_rfl) rfl (fun K hK => ?_)
          go_simp
          refine hK _ _ (hb5.alloc hb5.size _) ?_
          clear hK K zz zf
          refine anyH_done (by kernel_rfl) ?_
          have HFIN := Lib.hid (made_mk (W3 := w3) (Wx := w5) (owns_keep hoa (fun b e => hbb.block b (hoa.lt b e).2)) hb0.size hmw hb4.size (kept_of_below ((Below.refl _ w5).alloc (Nat.le_refl _) _)) (Box.new w5 _ _) (.inl (Nat.le_refl _)) hb5.size hb5 rfl)
          clear hoa hba hmw hbb hb4 hb5 hb6 hb0
          go_wp2_with fail
          go_meet
          case rel => exact HFIN.out
        · go_simp
          have hb6 := hb4.alloc hb4.size (.cells zm 33)
          refine hK _ _ hb6 ?_
          clear hK K
          have hz := Box.new w4 zm 33
          refine anyH_sole (i := 9) rfl (by kernel_rfl) rfl (fun K hK => ?_)
          go_simp
          refine (QB.out _ hb6).mono ?_
          rintro e w5 ⟨rb, rfl, hrm, hmw, hbb⟩
          obtain ⟨q1, d1, e51⟩ : ∃ q d, rb.kv = .slice q keys.length d := by obtain ⟨q, d, e⟩ := owns_slice hmw.k; exact ⟨q, d, by rw [e, hrm]; rfl⟩
          obtain ⟨q2, d2, e52⟩ : ∃ q d, rb.sv = .slice q keys.length d := by obtain ⟨q, d, e⟩ := owns_slice hmw.s; exact ⟨q, d, by rw [e, hrm]; simp [msgOf]⟩
          have hb5 := hb6.trans (hbb.mono hb6.size)
          obtain ⟨kv5, sv5, m5⟩ := rb
          simp only at hrm e51 e52
          subst hrm e51 e52
          refine hK _ _ hb5 ?_
          clear hK K
          ((first | (refine anyH_free (i := 11) (v := ?_) rfl (by kernel_rfl) (fun _ _ _ h => h) (Or.inl ⟨rfl, fun w' hS => ?_⟩) hb5 ?_; rotate_left; (skip; go_simp <;> with_reducible rfl)) | (refine anyH_free (i := 11) (v := undef) rfl (by kernel_rfl) (fun _ _ _ h => h) (Or.inr ⟨rfl, rfl⟩) hb5 ?_)); (simp only [Act.put, List.setIfInBounds_toArray, List.set_cons_zero, List.set_cons_succ]))
          have hz5 : Box w5 w4.heap.size zm 33 := hz.below hbb
          obtain ⟨zz, zf⟩ := hz5.rd
          have hzl := hz5.lt
          refine anyH_sole (i := 12) rfl (by kernel_rfl) rfl (fun K hK => ?_)
          go_simp
          have hks := stored_kept w5 w4.heap.size ⟨.slice q1 keys.length d1, .slice q2 keys.length d2, msgOf ⟨nm, by0, nv, fr, ev, rp, mvv, mu, rt⟩ fp l keys at_⟩
          refine hK _ _ (hb5.trans (hks.below (fun b e => by have := hb4.size; omega) hb5.size)) ?_
          clear hK K zz zf
          refine anyH_done (by kernel_rfl) ?_
          have HFIN := Lib.hid (made_mk (W3 := w3) (Wx := w5) (owns_keep (owns_keep hoa (fun b e => Below.heap_alloc _ _ _ (hoa.lt b e).2)) (fun b e => hbb.block b (Nat.lt_of_lt_of_le (hoa.lt b e).2 (by simp)))) hb0.size hmw hb6.size hks (stored_box hz5) (.inr hz5) hb4.size hb5 rfl)
          clear hoa hba hmw hbb hb4 hb5 hb6 hb0 hks hz hz5
          go_wp2_with fail
          go_meet
          case rel => exact HFIN.out
      · go_simp
        have hb6 := hb0.alloc hb0.size (.cells zm 33)
        refine hK _ _ hb6 ?_
        clear hK K
        have hz := Box.new w3.drew zm 33
        refine anyH_sole (i := 3) rfl (by kernel_rfl) rfl (fun K hK => ?_)
        go_simp
        refine (QA.out _ hb6).mono ?_
        rintro e w4 ⟨va, rfl, hoa, hba⟩
        obtain ⟨pa, ca, rfl⟩ := owns_slice hoa
        have hb4 := hb6.trans (hba.mono hb6.size)
        refine hK _ _ hb4 ?_
        clear hK K
        have hz4 : Box w4 w3.heap.size zm 33 := hz.below hba
        refine anyH_sole (i := 9) rfl (by kernel_rfl) rfl (fun K hK => ?_)
        go_simp
        refine (QB.out _ hb4).mono ?_
        rintro e w5 ⟨rb, rfl, hrm, hmw, hbb⟩
        obtain ⟨q1, d1, e51⟩ : ∃ q d, rb.kv = .slice q keys.length d := by obtain ⟨q, d, e⟩ := owns_slice hmw.k; exact ⟨q, d, by rw [e, hrm]; rfl⟩
        obtain ⟨q2, d2, e52⟩ : ∃ q d, rb.sv = .slice q keys.length d := by obtain ⟨q, d, e⟩ := owns_slice hmw.s; exact ⟨q, d, by rw [e, hrm]; simp [msgOf]⟩
        have hb5 := hb4.trans (hbb.mono hb4.size)
        obtain ⟨kv5, sv5, m5⟩ := rb
        simp only at hrm e51 e52
        subst hrm e51 e52
        refine hK _ _ hb5 ?_
        clear hK K
        ((first | (refine anyH_free (i := 11) (v := ?_) rfl (by kernel_rfl) (fun _ _ _ h => h) (Or.inl ⟨rfl, fun w' hS => ?_⟩) hb5 ?_; rotate_left; (skip; go_simp <;> with_reducible rfl)) | (refine anyH_free (i := 11) (v := undef) rfl (by kernel_rfl) (fun _ _ _ h => h) (Or.inr ⟨rfl, rfl⟩) hb5 ?_)); (simp only [Act.put, List.setIfInBounds_toArray, List.set_cons_zero, List.set_cons_succ]))
        have hz5 := hz4.below hbb
        obtain ⟨zz, zf⟩ := hz5.rd
        have hzl := hz5.lt
        refine anyH_sole (i := 12) rfl (by kernel_rfl) rfl (fun K hK => ?_)
        go_simp
        have hks := stored_kept w5 w3.heap.size ⟨.slice q1 keys.length d1, .slice q2 keys.length d2, msgOf ⟨nm, by0, nv, fr, ev, rp, mvv, mu, rt⟩ fp l keys at_⟩
        refine hK _ _ (hb5.trans (hks.below (fun b e => Nat.le_of_eq e.symm) hb5.size)) ?_
        clear hK K zz zf
        refine anyH_done (by kernel_rfl) ?_
        have HFIN := Lib.hid (made_mk (W3 := w3) (Wx := w5) (owns_keep hoa (fun b e => hbb.block b (hoa.lt b e).2)) hb6.size hmw hb4.size hks (stored_box hz5) (.inr hz5) (Nat.le_refl _) hb5 rfl)
        clear hoa hba hmw hbb hb4 hb5 hb6 hb0 hks hz hz4 hz5
        go_wp2_with fail
        go_meet
        case rel => exact HFIN.out
    case rest =>
      obtain ⟨pt, ct, bm, r, rfl, rfl, hto, hbx, hmw, hrm, hbm, hb⟩ := hcut
      obtain ⟨x1, y1, e51⟩ : ∃ q d, r.kv = .slice q keys.length d := by obtain ⟨q, d, e⟩ := owns_slice hmw.k; exact ⟨q, d, by rw [e, hrm]; rfl⟩
      obtain ⟨x2, y2, e52⟩ : ∃ q d, r.sv = .slice q keys.length d := by obtain ⟨q, d, e⟩ := owns_slice hmw.s; exact ⟨q, d, by rw [e, hrm]; simp [msgOf]⟩
      obtain ⟨kv5, sv5, m5⟩ := r
      simp only at hrm e51 e52
      subst hrm e51 e52
      obtain ⟨W4, hW4⟩ : ∃ W4, W4 = wc := ⟨_, rfl⟩
      rw [← hW4] at hto hbx hmw hb ⊢
      have HT0 : Hid (TT w ⟨nm, by0, nv, fr, ev, rp, mvv, mu, rt⟩ at_ l keys (.slice p2 l.length c2) (.slice p3 keys.length c3) (.slice pm l.length cm) (.slice pn keys.length cn) (.slice pt (tellL l keys at_).length ct) bm ⟨.slice x1 keys.length y1, .slice x2 keys.length y2, msgOf ⟨nm, by0, nv, fr, ev, rp, mvv, mu, rt⟩ fp l keys at_⟩ W4) := Lib.hid ⟨HB3.out.trans (hb.mono HB3.out.size), H53.out.below hb, H23.out.below hb, H33.out.below hb, HMI3.out.below hb, HNA.out.below hb, (Sl.owned encA_len hto).mono (fun _ _ _ => trivial), hbx, hmw.mo.mono (fun _ _ _ => trivial)⟩
      have hlt2 := tellL_len l keys at_
      have HLT := Lib.hid hlt2
      clear hto hbx hmw hb hbm hW4 QA QB HNA HMI3 H23 H33 H53 HB3 HJ HJ0 HJ1 HJ2 hlt2
      go_wp2_with fail
      go_loopw [15, 16, 17, 18, 19] (fun iv_ _ _ _ _ wr => ∃ k : Nat, iv_ = .int .i64 k ∧ k ≤ 2 ∧ TT w ⟨nm, by0, nv, fr, ev, rp, mvv, mu, rt⟩ at_ l keys (.slice p2 l.length c2) (.slice p3 keys.length c3) (.slice pm l.length cm) (.slice pn keys.length cn) (.slice pt (tellL l keys at_).length ct) bm ⟨.slice x1 keys.length y1, .slice x2 keys.length y2, msgOf ⟨nm, by0, nv, fr, ev, rp, mvv, mu, rt⟩ fp l keys at_⟩ wr) (fun iv_ _ _ _ _ _ => 2 - (intOf iv_).toNat)
      · exact ⟨0, rfl, by omega, HT0.out⟩
      obtain ⟨k, rfl, hk, hT⟩ := hrel
      clear HT0
      obtain ⟨Wo, hWo⟩ : ∃ Wo, Wo = wr := ⟨_, rfl⟩
      rw [← hWo] at hT ⊢
      have HT := Lib.hid hT
      clear hT hWo wr
      by_cases hk2 : k < 2
      · have hkk : (k : Int) < 2 := by omega
        have QA : Hid (∀ W, Below Wo.heap.size Wo W → Calls Try.prog 14 #[.slice pm l.length cm, .slice pn keys.length cn, .int .i64 at_] W (OwnsA (tellL l keys at_) W)) := Lib.hid fun W hb => tell_any (HT.out.mine.below hb) (HT.out.names.below hb) (by omega) (by omega) HS1.out HS2.out
        have QB : Hid (∀ W, Below Wo.heap.size Wo W → Calls Try.prog 15 #[rv ⟨nm, by0, nv, fr, ev, rp, mvv, mu, rt⟩, .int .u32 fp, .slice pm l.length cm, .slice pn keys.length cn, .int .i64 at_] W (MsgTo (msgOf ⟨nm, by0, nv, fr, ev, rp, mvv, mu, rt⟩ fp l keys at_) W)) := Lib.hid fun W hb => message_any (HT.out.mine.below hb) (HT.out.names.below hb) (by omega) (by omega) hnv hmv
        go_upto_region 10 with fail
        go_cut [16, 17] (fun tv mv_ wx => Made Wo (tellL l keys at_) (msgOf ⟨nm, by0, nv, fr, ev, rp, mvv, mu, rt⟩ fp l keys at_) tv mv_ wx)
        case first =>
          refine anyH_start 13 (fun w' => Below Wo.heap.size Wo w') (by kernel_rfl) rfl ?_
          have hb0 : Below Wo.heap.size Wo Wo.drew := (Below.refl _ Wo).drew
          ((first | (refine anyH_free (i := 0) (v := ?_) rfl (by kernel_rfl) (fun _ _ _ h => h) (Or.inl ⟨rfl, fun w' hS => ?_⟩) hb0 ?_; rotate_left; (have d0 := (HT.out.b5.below hS).rd.1; go_simp <;> with_reducible rfl)) | (refine anyH_free (i := 0) (v := undef) rfl (by kernel_rfl) (fun _ _ _ h => h) (Or.inr ⟨rfl, rfl⟩) hb0 ?_)); (simp only [Act.put, List.setIfInBounds_toArray, List.set_cons_zero, List.set_cons_succ])); ((first | (refine anyH_free (i := 1) (v := ?_) rfl (by kernel_rfl) (fun _ _ _ h => h) (Or.inl ⟨rfl, fun w' hS => ?_⟩) hb0 ?_; rotate_left; (have d0 := (HT.out.b5.below hS).rd.1; go_simp <;> with_reducible rfl)) | (refine anyH_free (i := 1) (v := undef) rfl (by kernel_rfl) (fun _ _ _ h => h) (Or.inr ⟨rfl, rfl⟩) hb0 ?_)); (simp only [Act.put, List.setIfInBounds_toArray, List.set_cons_zero, List.set_cons_succ])); ((first | (refine anyH_free (i := 2) (v := ?_) rfl (by kernel_rfl) (fun _ _ _ h => h) (Or.inl ⟨rfl, fun w' hS => ?_⟩) hb0 ?_; rotate_left; (have d0 := (HT.out.b5.below hS).rd.1; go_simp <;> with_reducible rfl)) | (refine anyH_free (i := 2) (v := undef) rfl (by kernel_rfl) (fun _ _ _ h => h) (Or.inr ⟨rfl, rfl⟩) hb0 ?_)); (simp only [Act.put, List.setIfInBounds_toArray, List.set_cons_zero, List.set_cons_succ])); ((first | (refine anyH_free (i := 4) (v := ?_) rfl (by kernel_rfl) (fun _ _ _ h => h) (Or.inl ⟨rfl, fun w' hS => ?_⟩) hb0 ?_; rotate_left; (have d0 := (HT.out.b5.below hS).rd.1; go_simp <;> with_reducible rfl)) | (refine anyH_free (i := 4) (v := undef) rfl (by kernel_rfl) (fun _ _ _ h => h) (Or.inr ⟨rfl, rfl⟩) hb0 ?_)); (simp only [Act.put, List.setIfInBounds_toArray, List.set_cons_zero, List.set_cons_succ])); ((first | (refine anyH_free (i := 5) (v := ?_) rfl (by kernel_rfl) (fun _ _ _ h => h) (Or.inl ⟨rfl, fun w' hS => ?_⟩) hb0 ?_; rotate_left; (have d0 := (HT.out.b5.below hS).rd.1; go_simp <;> with_reducible rfl)) | (refine anyH_free (i := 5) (v := undef) rfl (by kernel_rfl) (fun _ _ _ h => h) (Or.inr ⟨rfl, rfl⟩) hb0 ?_)); (simp only [Act.put, List.setIfInBounds_toArray, List.set_cons_zero, List.set_cons_succ])); ((first | (refine anyH_free (i := 6) (v := ?_) rfl (by kernel_rfl) (fun _ _ _ h => h) (Or.inl ⟨rfl, fun w' hS => ?_⟩) hb0 ?_; rotate_left; (have d0 := (HT.out.b5.below hS).rd.1; go_simp <;> with_reducible rfl)) | (refine anyH_free (i := 6) (v := undef) rfl (by kernel_rfl) (fun _ _ _ h => h) (Or.inr ⟨rfl, rfl⟩) hb0 ?_)); (simp only [Act.put, List.setIfInBounds_toArray, List.set_cons_zero, List.set_cons_succ])); ((first | (refine anyH_free (i := 7) (v := ?_) rfl (by kernel_rfl) (fun _ _ _ h => h) (Or.inl ⟨rfl, fun w' hS => ?_⟩) hb0 ?_; rotate_left; (have d0 := (HT.out.b5.below hS).rd.1; go_simp <;> with_reducible rfl)) | (refine anyH_free (i := 7) (v := undef) rfl (by kernel_rfl) (fun _ _ _ h => h) (Or.inr ⟨rfl, rfl⟩) hb0 ?_)); (simp only [Act.put, List.setIfInBounds_toArray, List.set_cons_zero, List.set_cons_succ])); ((first | (refine anyH_free (i := 8) (v := ?_) rfl (by kernel_rfl) (fun _ _ _ h => h) (Or.inl ⟨rfl, fun w' hS => ?_⟩) hb0 ?_; rotate_left; (have d0 := (HT.out.b5.below hS).rd.1; go_simp <;> with_reducible rfl)) | (refine anyH_free (i := 8) (v := undef) rfl (by kernel_rfl) (fun _ _ _ h => h) (Or.inr ⟨rfl, rfl⟩) hb0 ?_)); (simp only [Act.put, List.setIfInBounds_toArray, List.set_cons_zero, List.set_cons_succ]))
          refine anyH_two (i := 3) (j := 10) rfl rfl (by kernel_rfl) rfl rfl (fun K hK => ?_) (fun K hK => ?_)
          · go_simp
            refine (QA.out _ hb0).mono ?_
            rintro e w4 ⟨va, rfl, hoa, hba⟩
            obtain ⟨pa, ca, rfl⟩ := owns_slice hoa
            have hb4 := hb0.trans (hba.mono hb0.size)
            refine hK _ _ hb4 ?_
            clear hK K
            refine anyH_two (i := 9) (j := 10) rfl rfl (by kernel_rfl) rfl rfl (fun K hK => ?_) (fun K hK => ?_)
            · go_simp
              refine (QB.out _ hb4).mono ?_
              rintro e w5 ⟨rb, rfl, hrm, hmw, hbb⟩
              obtain ⟨q1, d1, e51⟩ : ∃ q d, rb.kv = .slice q keys.length d := by obtain ⟨q, d, e⟩ := owns_slice hmw.k; exact ⟨q, d, by rw [e, hrm]; rfl⟩
              obtain ⟨q2, d2, e52⟩ : ∃ q d, rb.sv = .slice q keys.length d := by obtain ⟨q, d, e⟩ := owns_slice hmw.s; exact ⟨q, d, by rw [e, hrm]; simp [msgOf]⟩
              have hb5 := hb4.trans (hbb.mono hb4.size)
              obtain ⟨kv5, sv5, m5⟩ := rb
              simp only at hrm e51 e52
              subst hrm e51 e52
              refine hK _ _ hb5 ?_
              clear hK K
              refine anyH_sole (i := 10) rfl (by kernel_rfl) rfl (fun K hK => ?_)
              go_simp
              have hb6 := hb5.alloc hb5.size (.cells zm 33)
              refine hK _ _ hb6 ?_
              clear hK K
              ((first | (refine anyH_free (i := 11) (v := ?_) rfl (by kernel_rfl) (fun _ _ _ h => h) (Or.inl ⟨rfl, fun w' hS => ?_⟩) hb6 ?_; rotate_left; (skip; go_simp <;> with_reducible rfl)) | (refine anyH_free (i := 11) (v := undef) rfl (by kernel_rfl) (fun _ _ _ h => h) (Or.inr ⟨rfl, rfl⟩) hb6 ?_)); (simp only [Act.put, List.setIfInBounds_toArray, List.set_cons_zero, List.set_cons_succ]))
              obtain ⟨zz, zf⟩ := (Box.new w5 zm 33).rd
              have hzl : w5.heap.size < (w5.alloc (.cells zm 33)).heap.size := by simp
              refine anyH_sole (i := 12) rfl (by kernel_rfl) rfl (fun K hK => ?_)
              go_simp
              refine hK _ _ (hb5.alloc hb5.size _) ?_
              clear hK K zz zf
              refine anyH_done (by kernel_rfl) ?_
              have HFIN := Lib.hid (made_mk (W3 := Wo) (Wx := w5) (owns_keep hoa (fun b e => hbb.block b (hoa.lt b e).2)) hb0.size hmw hb4.size (kept_of_below ((Below.refl _ w5).alloc (Nat.le_refl _) _)) (Box.new w5 _ _) (.inl (Nat.le_refl _)) hb5.size hb5 rfl)
              clear hoa hba hmw hbb hb4 hb5 hb6 hb0
              go_wp2_with fail
              go_meet
              case rel => exact HFIN.out
            · go_simp
              have hb6 := hb4.alloc hb4.size (.cells zm 33)
              refine hK _ _ hb6 ?_
              clear hK K
              have hz := Box.new w4 zm 33
              refine anyH_sole (i := 9) rfl (by kernel_rfl) rfl (fun K hK => ?_)
              go_simp
              refine (QB.out _ hb6).mono ?_
              rintro e w5 ⟨rb, rfl, hrm, hmw, hbb⟩
              obtain ⟨q1, d1, e51⟩ : ∃ q d, rb.kv = .slice q keys.length d := by obtain ⟨q, d, e⟩ := owns_slice hmw.k; exact ⟨q, d, by rw [e, hrm]; rfl⟩
              obtain ⟨q2, d2, e52⟩ : ∃ q d, rb.sv = .slice q keys.length d := by obtain ⟨q, d, e⟩ := owns_slice hmw.s; exact ⟨q, d, by rw [e, hrm]; simp [msgOf]⟩
              have hb5 := hb6.trans (hbb.mono hb6.size)
              obtain ⟨kv5, sv5, m5⟩ := rb
              simp only at hrm e51 e52
              subst hrm e51 e52
              refine hK _ _ hb5 ?_
              clear hK K
              ((first | (refine anyH_free (i := 11) (v := ?_) rfl (by kernel_rfl) (fun _ _ _ h => h) (Or.inl ⟨rfl, fun w' hS => ?_⟩) hb5 ?_; rotate_left; (skip; go_simp <;> with_reducible rfl)) | (refine anyH_free (i := 11) (v := undef) rfl (by kernel_rfl) (fun _ _ _ h => h) (Or.inr ⟨rfl, rfl⟩) hb5 ?_)); (simp only [Act.put, List.setIfInBounds_toArray, List.set_cons_zero, List.set_cons_succ]))
              have hz5 : Box w5 w4.heap.size zm 33 := hz.below hbb
              obtain ⟨zz, zf⟩ := hz5.rd
              have hzl := hz5.lt
              refine anyH_sole (i := 12) rfl (by kernel_rfl) rfl (fun K hK => ?_)
              go_simp
              have hks := stored_kept w5 w4.heap.size ⟨.slice q1 keys.length d1, .slice q2 keys.length d2, msgOf ⟨nm, by0, nv, fr, ev, rp, mvv, mu, rt⟩ fp l keys at_⟩
              refine hK _ _ (hb5.trans (hks.below (fun b e => by have := hb4.size; omega) hb5.size)) ?_
              clear hK K zz zf
              refine anyH_done (by kernel_rfl) ?_
              have HFIN := Lib.hid (made_mk (W3 := Wo) (Wx := w5) (owns_keep (owns_keep hoa (fun b e => Below.heap_alloc _ _ _ (hoa.lt b e).2)) (fun b e => hbb.block b (Nat.lt_of_lt_of_le (hoa.lt b e).2 (by simp)))) hb0.size hmw hb6.size hks (stored_box hz5) (.inr hz5) hb4.size hb5 rfl)
              clear hoa hba hmw hbb hb4 hb5 hb6 hb0 hks hz hz5
              go_wp2_with fail
              go_meet
              case rel => exact HFIN.out
          · go_simp
            have hb6 := hb0.alloc hb0.size (.cells zm 33)
            refine hK _ _ hb6 ?_
            clear hK K
            have hz := Box.new Wo.drew zm 33
            refine anyH_sole (i := 3) rfl (by kernel_rfl) rfl (fun K hK => ?_)
            go_simp
            refine (QA.out _ hb6).mono ?_
            rintro e w4 ⟨va, rfl, hoa, hba⟩
            obtain ⟨pa, ca, rfl⟩ := owns_slice hoa
            have hb4 := hb6.trans (hba.mono hb6.size)
            refine hK _ _ hb4 ?_
            clear hK K
            have hz4 : Box w4 Wo.heap.size zm 33 := hz.below hba
            refine anyH_sole (i := 9) rfl (by kernel_rfl) rfl (fun K hK => ?_)
            go_simp
            refine (QB.out _ hb4).mono ?_
            rintro e w5 ⟨rb, rfl, hrm, hmw, hbb⟩
            obtain ⟨q1, d1, e51⟩ : ∃ q d, rb.kv = .slice q keys.length d := by obtain ⟨q, d, e⟩ := owns_slice hmw.k; exact ⟨q, d, by rw [e, hrm]; rfl⟩
            obtain ⟨q2, d2, e52⟩ : ∃ q d, rb.sv = .slice q keys.length d := by obtain ⟨q, d, e⟩ := owns_slice hmw.s; exact ⟨q, d, by rw [e, hrm]; simp [msgOf]⟩
            have hb5 := hb4.trans (hbb.mono hb4.size)
            obtain ⟨kv5, sv5, m5⟩ := rb
            simp only at hrm e51 e52
            subst hrm e51 e52
            refine hK _ _ hb5 ?_
            clear hK K
            ((first | (refine anyH_free (i := 11) (v := ?_) rfl (by kernel_rfl) (fun _ _ _ h => h) (Or.inl ⟨rfl, fun w' hS => ?_⟩) hb5 ?_; rotate_left; (skip; go_simp <;> with_reducible rfl)) | (refine anyH_free (i := 11) (v := undef) rfl (by kernel_rfl) (fun _ _ _ h => h) (Or.inr ⟨rfl, rfl⟩) hb5 ?_)); (simp only [Act.put, List.setIfInBounds_toArray, List.set_cons_zero, List.set_cons_succ]))
            have hz5 := hz4.below hbb
            obtain ⟨zz, zf⟩ := hz5.rd
            have hzl := hz5.lt
            refine anyH_sole (i := 12) rfl (by kernel_rfl) rfl (fun K hK => ?_)
            go_simp
            have hks := stored_kept w5 Wo.heap.size ⟨.slice q1 keys.length d1, .slice q2 keys.length d2, msgOf ⟨nm, by0, nv, fr, ev, rp, mvv, mu, rt⟩ fp l keys at_⟩
            refine hK _ _ (hb5.trans (hks.below (fun b e => Nat.le_of_eq e.symm) hb5.size)) ?_
            clear hK K zz zf
            refine anyH_done (by kernel_rfl) ?_
            have HFIN := Lib.hid (made_mk (W3 := Wo) (Wx := w5) (owns_keep hoa (fun b e => hbb.block b (hoa.lt b e).2)) hb6.size hmw hb4.size hks (stored_box hz5) (.inr hz5) (Nat.le_refl _) hb5 rfl)
            clear hoa hba hmw hbb hb4 hb5 hb6 hb0 hks hz hz4 hz5
            go_wp2_with fail
            go_meet
            case rel => exact HFIN.out
        case rest =>
          obtain ⟨pa, ca, bn, r2, rfl, rfl, hro, hbx, hmw, hrm, hbm, hb⟩ := hcut
          obtain ⟨z1, u1', e51⟩ : ∃ q d, r2.kv = .slice q keys.length d := by obtain ⟨q, d, e⟩ := owns_slice hmw.k; exact ⟨q, d, by rw [e, hrm]; rfl⟩
          obtain ⟨z2, u2', e52⟩ : ∃ q d, r2.sv = .slice q keys.length d := by obtain ⟨q, d, e⟩ := owns_slice hmw.s; exact ⟨q, d, by rw [e, hrm]; simp [msgOf]⟩
          obtain ⟨kv5, sv5, m5⟩ := r2
          simp only at hrm e51 e52
          subst hrm e51 e52
          obtain ⟨W5, hW5⟩ : ∃ W5, W5 = wc := ⟨_, rfl⟩
          rw [← hW5] at hro hbx hmw hb ⊢
          have HRO := Lib.hid hro
          have HBX := Lib.hid hbx
          have HMW := Lib.hid hmw
          have HBL := Lib.hid hb
          have HT5 := Lib.hid (HT.out.later hb)
          clear hro hbx hmw hb hW5 QA QB hbm
          have HC1 := Lib.hid (sameA_any (S := fun _ => True) ((Sl.owned encA_len HRO.out).mono (fun _ _ _ => trivial)) HT5.out.told (by have := HLT.out; omega))
          have c17 := HBX.out.rd.1
          have c14 := HT5.out.want.rd.1
          go_wp2_with fail
          refine HC1.out.mono ?_
          rintro e w6 ⟨rfl, hb6⟩
          have HB6 := Lib.hid (HBL.out.trans (hb6.mono HBL.out.size))
          have HRO6 := Lib.hid (owns_keep HRO.out (fun b e => hb6.block b (HRO.out.lt b e).2))
          have HBX6 := Lib.hid (HBX.out.below hb6)
          have HMW6 := Lib.hid (HMW.out.below hb6)
          have HT6 := Lib.hid (HT5.out.later hb6)
          clear hb6 HC1 c17 c14 HBL HRO HBX HMW HT5
          have c17 := HBX6.out.rd.1
          have c14 := HT6.out.want.rd.1
          have HC2 := Lib.hid (same_any (HMW6.out.mo) HT6.out.mo rfl ⟨(by show keys.length ≤ 100000; omega), (by show (keys.map (sinceOf l)).length ≤ 100000; rw [List.length_map]; omega)⟩)
          go_wp2_with fail
          refine HC2.out.mono ?_
          rintro e w7 ⟨rfl, hb7⟩
          have HB7 := Lib.hid (HB6.out.trans (hb7.mono HB6.out.size))
          have HRO7 := Lib.hid (owns_keep HRO6.out (fun b e => hb7.block b (HRO6.out.lt b e).2))
          have HBX7 := Lib.hid (HBX6.out.below hb7)
          have HMW7 := Lib.hid (HMW6.out.below hb7)
          have HT7 := Lib.hid (HT6.out.later hb7)
          clear hb7 HC2 c17 c14 HB6 HRO6 HBX6 HMW6 HT6
          go_wp2_with fail
          refine (sameA_any HT7.out.mine HT7.out.sl (by omega)).mono ?_
          rintro e w8 ⟨rfl, hb8⟩
          have HT8 := Lib.hid (HT7.out.later hb8)
          have HB8 := Lib.hid (HB7.out.trans (hb8.mono HB7.out.size))
          have HRO8 := Lib.hid (owns_keep HRO7.out (fun b e => hb8.block b (HRO7.out.lt b e).2))
          have HBX8 := Lib.hid (HBX7.out.below hb8)
          have HMW8 := Lib.hid (HMW7.out.below hb8)
          clear hb8 HB7 HRO7 HBX7 HMW7 HT7
          go_wp2_with fail
          refine (sameNames_any HT8.out.names HT8.out.sk (by omega)).mono ?_
          rintro e w9 ⟨rfl, hb9⟩
          have HB9 := Lib.hid (HB8.out.trans (hb9.mono HB8.out.size))
          have HRO9 := Lib.hid (owns_keep HRO8.out (fun b e => hb9.block b (HRO8.out.lt b e).2))
          have HBX9 := Lib.hid (HBX8.out.below hb9)
          have HMW9 := Lib.hid (HMW8.out.below hb9)
          clear hb9 HB8 HRO8 HBX8 HMW8 HT8
          go_wp2_with fail
          obtain ⟨n, hn⟩ : ∃ n, (tellL l keys at_).length = n := ⟨_, rfl⟩
          rw [hn] at HRO9 ⊢
          have hnl : n ≤ 200 := by have := HLT.out; omega
          have HNN := Lib.hid hn
          clear hn
          go_loopw [18] (fun iv_ wr => ∃ (j : Nat) (az : List Al), iv_ = .int .i64 j ∧ j ≤ n ∧ az.length = n ∧ wr.ownsRow Wo.heap.size 39 5 (.slice pa n ca) n (az.flatMap encA) ∧ Box wr bn (mc ⟨.slice z1 keys.length u1', .slice z2 keys.length u2', msgOf ⟨nm, by0, nv, fr, ev, rp, mvv, mu, rt⟩ fp l keys at_⟩) 33 ∧ Mw Wo.heap.size wr ⟨.slice z1 keys.length u1', .slice z2 keys.length u2', msgOf ⟨nm, by0, nv, fr, ev, rp, mvv, mu, rt⟩ fp l keys at_⟩ ∧ Below Wo.heap.size Wo wr) (fun iv_ _ => n - (intOf iv_).toNat)
          · exact ⟨0, _, rfl, by omega, HNN.out, HRO9.out, HBX9.out, HMW9.out, HB9.out⟩
          obtain ⟨j, az, rfl, hj, has, hro, hbx, hmw, hb⟩ := hrel
          have HRO := Lib.hid hro
          have HBX := Lib.hid hbx
          have HMW := Lib.hid hmw
          have HBL := Lib.hid hb
          have HAS := Lib.hid has
          clear HRO9 HBX9 HMW9 HB9 hbx hmw hb
          by_cases hjn : j < n
          · obtain ⟨g, rfl⟩ := own_some hro (by omega)
            obtain ⟨⟨r, by_, st, si, t⟩, hx⟩ : ∃ x, az[j]? = some x := ⟨_, List.getElem?_eq_getElem (by omega)⟩
            have x4 := own_rdG encA_len hro hx 4 _ rfl
            simp only at x4
            have fz := own_fzG hro
            have hgl := (hro.lt g rfl).2
            have hgb := (hro.lt g rfl).1
            have hjj : (j : Int) < (n : Int) := by omega
            have HX := Lib.hid hx
            clear hx hro has
            go_wp2_with fail
            have hrow := own_putG (j := 4) (u := .int .i64 (-5)) (o' := ⟨r, by_, st, si, -5⟩) encA_len HRO.out HX.out (by decide) rfl
            have hk1 : Kept (fun i => i = g) wr (wr.setCell ⟨g, j * 5 + 4, none⟩ (.int .i64 (-5))) := (Kept.refl (fun i => i = g) wr).setCell _ _ (fun _ => rfl)
            refine ⟨⟨j + 1, az.set j ⟨r, by_, st, si, -5⟩, by simp, by omega, by rw [List.length_set]; exact HAS.out, hrow, HBX.out.kept hk1 (fun e => box_apart HRO.out HBX.out (by decide) (by rw [e]; rfl)), ⟨owns_keep HMW.out.k (fun b e => hk1.block b (HMW.out.k.lt b e).2 (fun e' => own_apart HMW.out.k HRO.out (by decide) b e (by rw [e']; rfl))), owns_keep HMW.out.s (fun b e => hk1.block b (HMW.out.s.lt b e).2 (fun e' => own_apart HMW.out.s HRO.out (by decide) b e (by rw [e']; rfl))), HMW.out.ne⟩, HBL.out.trans (hk1.below (fun i e => by omega) HBL.out.size)⟩, by simp [intOf]; omega⟩
          · obtain rfl : j = n := by omega
            clear hro has HRO
            go_wp2_with fail
            obtain ⟨KN, hKN⟩ : ∃ KN, keys.length = KN := ⟨_, rfl⟩
            have hkn : KN ≤ 200 := by omega
            have hro1 := HMW.out.k
            have hro2 := HMW.out.s
            have hne3 := HMW.out.ne
            have hbx3 := HBX.out
            have e1 : (msgOf ⟨nm, by0, nv, fr, ev, rp, mvv, mu, rt⟩ fp l keys at_).ks.length = KN := hKN
            have e2 : (msgOf ⟨nm, by0, nv, fr, ev, rp, mvv, mu, rt⟩ fp l keys at_).ss.length = KN := by simp only [msgOf, List.length_map]; exact hKN
            simp only [e1, e2, hKN] at hro1 hro2 hne3 hbx3
            obtain ⟨zs0, hzs⟩ : ∃ zs, (msgOf ⟨nm, by0, nv, fr, ev, rp, mvv, mu, rt⟩ fp l keys at_).ss = zs := ⟨_, rfl⟩
            obtain ⟨ks0, hks⟩ : ∃ zs, (msgOf ⟨nm, by0, nv, fr, ev, rp, mvv, mu, rt⟩ fp l keys at_).ks = zs := ⟨_, rfl⟩
            rw [hzs] at hro2 e2
            rw [hks] at hro1 e1
            have HP := Lib.hid hro1
            have HQ := Lib.hid hro2
            have HB3 := Lib.hid hbx3
            have HE1 := Lib.hid e1
            have HE2 := Lib.hid e2
            have HNE := Lib.hid hne3
            have HKN := Lib.hid hKN
            have HB10 := Lib.hid HBL.out
            rw [hKN]
            clear hro1 hro2 hbx3 e1 e2 HBL HBX HMW HAS hzs hks hKN hne3
            go_loopw [19] (fun iv_ wr => ∃ (j : Nat) (ks : List ByteArray) (zs : List Int), iv_ = .int .i64 j ∧ j ≤ KN ∧ ks.length = KN ∧ zs.length = KN ∧ wr.ownsRow Wo.heap.size 9 1 (.slice z1 KN u1') KN (ks.flatMap encS) ∧ wr.ownsRow Wo.heap.size 3 1 (.slice z2 KN u2') KN (zs.flatMap encJ) ∧ Box wr bn (mc ⟨.slice z1 KN u1', .slice z2 KN u2', msgOf ⟨nm, by0, nv, fr, ev, rp, mvv, mu, rt⟩ fp l keys at_⟩) 33 ∧ Below Wo.heap.size Wo wr) (fun iv_ _ => KN - (intOf iv_).toNat)
            · exact ⟨0, ks0, zs0, rfl, by omega, HE1.out, HE2.out, HP.out, HQ.out, HB3.out, HB10.out⟩
            obtain ⟨i, ks, zs, rfl, hi, hkl, hzl, hp, hq, hbx, hb⟩ := hrel
            have HP2 := Lib.hid hp
            have HQ2 := Lib.hid hq
            have HX2 := Lib.hid hbx
            have HB2 := Lib.hid hb
            clear HP HQ HB3 HB10 hb HE1 HE2
            have c17 := hbx.rd.1
            by_cases hin : i < KN
            · obtain ⟨g1', rfl⟩ := own_some hp (by omega)
              obtain ⟨g2', rfl⟩ := own_some hq (by omega)
              obtain ⟨x1', hx1⟩ : ∃ x, ks[i]? = some x := ⟨_, List.getElem?_eq_getElem (by omega)⟩
              obtain ⟨x2', hx2⟩ : ∃ x, zs[i]? = some x := ⟨_, List.getElem?_eq_getElem (by omega)⟩
              have d1 := own_rdG encS_len hp hx1 0 _ rfl
              have d2 := own_rdG encJ_len hq hx2 0 _ rfl
              have f1 := own_fzG hp
              have f2 := own_fzG hq
              have l1 := (hp.lt g1' rfl).2
              have l2 := (hq.lt g2' rfl).2
              have m1 := (hp.lt g1' rfl).1
              have m2 := (hq.lt g2' rfl).1
              have hij : (i : Int) < (KN : Int) := by omega
              have hgg : g1' ≠ g2' := fun e => HNE.out g1' rfl (by rw [e]; rfl)
              simp only [Nat.mul_one, Nat.add_zero] at d1 d2
              have hbg : bn ≠ g1' := fun e => box_apart hp hbx (by decide) (by rw [e]; rfl)
              have hbg2 : bn ≠ g2' := fun e => box_apart hq hbx (by decide) (by rw [e]; rfl)
              have hgg2 := hgg.symm
              have HK1 := Lib.hid hx1
              have HK2 := Lib.hid hx2
              clear hp hq hx1 hx2 hbx
              go_wp2_with fail
              have hs1 := own_putG (j := 0) (u := .string ⟨#[115, 112, 111, 105, 108, 116]⟩) (o' := ⟨#[115, 112, 111, 105, 108, 116]⟩) encS_len HP2.out HK1.out (by decide) rfl
              have hs2 := own_putG (j := 0) (u := .int .i64 (-5)) (o' := (-5 : Int)) encJ_len HQ2.out HK2.out (by decide) rfl
              simp only [Nat.mul_one, Nat.add_zero] at hs1 hs2
              have hk1 : Kept (fun b => b = g1') wr (wr.setCell ⟨g1', i, none⟩ (.string ⟨#[115, 112, 111, 105, 108, 116]⟩)) := (Kept.refl (fun b => b = g1') wr).setCell _ _ (fun _ => rfl)
              have hq2 : (wr.setCell ⟨g1', i, none⟩ (.string ⟨#[115, 112, 111, 105, 108, 116]⟩)).ownsRow Wo.heap.size 3 1 (.slice (some ⟨g2', 0, none⟩) KN u2') KN (zs.flatMap encJ) := owns_keep HQ2.out (fun b e => hk1.block b (HQ2.out.lt b e).2 (fun e' => by cases e; exact hgg2 e'))
              have hq3 := own_putG (j := 0) (u := .int .i64 (-5)) (o' := (-5 : Int)) encJ_len hq2 HK2.out (by decide) rfl
              simp only [Nat.mul_one, Nat.add_zero] at hq3
              have hk2 : Kept (fun b => b = g2') (wr.setCell ⟨g1', i, none⟩ (.string ⟨#[115, 112, 111, 105, 108, 116]⟩)) ((wr.setCell ⟨g1', i, none⟩ (.string ⟨#[115, 112, 111, 105, 108, 116]⟩)).setCell ⟨g2', i, none⟩ (.int .i64 (-5))) := (Kept.refl (fun b => b = g2') _).setCell _ _ (fun _ => rfl)
              refine ⟨⟨i + 1, ks.set i ⟨#[115, 112, 111, 105, 108, 116]⟩, zs.set i (-5), rfl, by omega, by rw [List.length_set]; exact hkl, by rw [List.length_set]; exact hzl, owns_keep hs1 (fun b e => hk2.block b (hs1.lt b e).2 (fun e' => by cases e; exact hgg e')), hq3, (HX2.out.kept hk1 (fun e => hbg e)).kept hk2 (fun e => hbg2 e), (HB2.out.trans (hk1.below (fun b e => by omega) HB2.out.size)).trans (hk2.below (fun b e => by omega) (HB2.out.trans (hk1.below (fun b e => by omega) HB2.out.size)).size)⟩, by simp [intOf]; omega⟩
            · obtain rfl : i = KN := by omega
              have e3 := HKN.out
              subst e3
              have e4 := HNN.out
              subst e4
              clear hp hq hbx
              go_wp2_with fail
              refine ⟨⟨k + 1, by simp, by omega, HT.out.later HB2.out⟩, by simp [intOf]; omega⟩
      · obtain rfl : k = 2 := by omega
        have HBE := Lib.hid HT.out.below
        go_wp2_with fail
        go_ret
        exact ⟨rfl, HBE.out⟩
end Go.Proofs.Ytajflljemfgkiaa

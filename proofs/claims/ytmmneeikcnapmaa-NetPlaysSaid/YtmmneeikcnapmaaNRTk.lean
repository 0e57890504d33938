/- The reference's Take -/
import Derived.Test.YtmmneeikcnapmaaNRfN
namespace Go.Proofs.Ytmmneeikcnapmaa
open Go.RowKit
attribute [local go_sem] Oper.semAt_some

theorem pick_neg {i : Int} {n : Nat} (hn : 0 < n) (h : Int.tmod i n < 0) : Int.tmod i n + n = (pick i n : Int) := by
  have h1 := (tmod_in i hn).1
  have h2 := pick_eq i hn
  generalize Int.tmod i n = t at *
  rw [← h2, Int.tmod_eq_emod_of_nonneg (by omega), Int.emod_eq_of_lt (by omega) (by omega)]
theorem pick_pos {i : Int} {n : Nat} (hn : 0 < n) (h : ¬ Int.tmod i n < 0) : Int.tmod i n = (pick i n : Int) := by
  have h1 := (tmod_in i hn).2
  have h2 := pick_eq i hn
  generalize Int.tmod i n = t at *
  rw [← h2, Int.tmod_eq_emod_of_nonneg (by omega), Int.add_emod_right, Int.emod_eq_of_lt (by omega) (by omega)]
def RTakeTo (S : Nat → Prop) (p : Nat) (xs : List Ms) (i : Int) (w : World) (e : Ending) (w' : World) : Prop :=
  ∃ r, e = .returned (.tuple #[mv r, .bool true]) ∧ xs[pick i xs.length]? = some r.m ∧ Mo S w' r ∧ RfAt S p w' (xs.eraseIdx (pick i xs.length)) ∧ Kept (fun b => b = p) w w'
set_option maxRecDepth 100000 in
set_option maxHeartbeats 1000000 in
theorem rtake_none {S : Nat → Prop} {p : Nat} {w : World} {i : Int} (h : RfAt S p w []) : Calls Try.prog 17 #[nv p, .int .i64 i] w (Tells (.tuple #[mv zeroM, .bool false]) w) := by
  have hb0 : Below w.heap.size w (w.alloc (.cells zm 33)) := (Below.refl _ w).alloc (Nat.le_refl _) _
  obtain ⟨v, rs, hm, hin⟩ := h.below hb0
  have hpl := h.lt
  obtain rfl : rs = [] := List.map_eq_nil_iff.1 hm
  obtain ⟨c, z⟩ := hin.box.rd
  obtain ⟨p1, c1, rfl⟩ := owns_slice hin.own
  have b0 := Box.new w zm 33
  obtain ⟨c0, z0⟩ := b0.rd
  have HB0 := Lib.hid hb0
  clear h hin hm b0 hb0
  go_enter Try.func17, Try.ntmps17
  go_wp2_with fail
  refine bodyPost_ret (v := .tuple #[mv zeroM, .bool false]) ?_ rfl ?_
  · simp [results, Try.results17, go_sem, zeroM]
  · exact ⟨rfl, HB0.out⟩
set_option maxRecDepth 100000 in
set_option maxHeartbeats 2000000 in
theorem rtake_any {S : Nat → Prop} {p : Nat} {w : World} {xs : List Ms} {i : Int} (h : RfAt S p w xs) (hp : 0 < xs.length) (hn : xs.length ≤ 1000) (hS : ∀ k, w.heap.size ≤ k → S k) : Calls Try.prog 17 #[nv p, .int .i64 i] w (RTakeTo S p xs i w) := by
  have hb0 : Below w.heap.size w (w.alloc (.cells zm 33)) := (Below.refl _ w).alloc (Nat.le_refl _) _
  have b0 := Box.new w zm 33
  have hpw := h.lt
  obtain ⟨v, rs, rfl, hin⟩ := h
  have HT : Hid (∀ e w', (∃ r, e = .returned (.tuple #[mv r, .bool true]) ∧ rs[pick i rs.length]? = some r ∧ Mo S w' r ∧ RfAt S p w' ((rs.eraseIdx (pick i rs.length)).map Mr.m) ∧ Kept (fun b => b = p) w w') → RTakeTo S p (rs.map Mr.m) i w e w') := Lib.hid (by
    rintro e w' ⟨r, h1, h2, h3, h4, h5⟩
    refine ⟨r, h1, ?_, h3, ?_, h5⟩
    · rw [List.length_map, List.getElem?_map, h2]; rfl
    · rw [List.length_map, ← map_eraseIdx']; exact h4)
  rw [List.length_map] at hp hn
  obtain ⟨p1, c1, rfl⟩ := owns_slice hin.own
  have HIN0 := Lib.hid hin
  have hi2 : RfIn S p (w.alloc (.cells zm 33)) (.slice p1 rs.length c1) rs := hin.kept (F := fun _ => False) (kept_of_below hb0) (fun _ _ _ x => x) (fun x => x)
  have HIN := Lib.hid hi2
  have hne : ((rs.length : Int) == 0) = false := by rw [beq_eq_false_iff_ne]; omega
  have hrn : ¬ rs = [] := by
    rintro rfl
    simp at hp
  have hpl := pick_lt i hp
  have hpn := pick_neg (i := i) hp
  have hpp := pick_pos (i := i) hp
  have htm := tmod_in i hp
  obtain ⟨k, hkd⟩ : ∃ k, pick i rs.length = k := ⟨_, rfl⟩
  rw [hkd] at hpl hpn hpp HT
  obtain ⟨t, ht⟩ : ∃ t, Int.tmod i rs.length = t := ⟨_, rfl⟩
  rw [ht] at hpn hpp htm
  obtain ⟨⟨kv, sv, m⟩, hr⟩ : ∃ r, rs[k]? = some r := ⟨_, List.getElem?_eq_getElem hpl⟩
  have hmo := hin.mo _ (List.mem_of_getElem? hr)
  obtain ⟨q1, d1, e3, -, -⟩ := hmo.k.len
  obtain ⟨q2, d2, e4, -, -⟩ := hmo.s.len
  simp only at e3 e4
  subst e3 e4
  have hsl := Sl.owned encM_len hi2.own
  obtain ⟨a1, rfl, -, -, hM⟩ := hsl.at hr
  obtain ⟨x0, x1, x2, x3, x4⟩ := Cm.of hM hr
  simp only at x0 x1 x2 x3 x4
  obtain ⟨c, z⟩ := hi2.box.rd
  have hpW := hi2.box.lt
  have hhd := hsl.head (k := k) (by omega)
  have hlk : (rs.take k).length = k := by rw [List.length_take]; omega
  have hld : (rs.drop (k + 1)).length = rs.length - (k + 1) := List.length_drop
  have hml : rs.length ≤ c1 := by
    rcases hsl with ⟨h, _⟩ | ⟨a', cap, h, _, h2, _, _⟩
    · cases h
    · simp only [Value.slice.injEq] at h
      omega
  have hone : ∀ x ∈ rs, ∀ u ∈ encM x, u.oneCell' = true := fun x hx => (hin.mo x hx).oneCell
  have k0 : (0 : Int) ≤ (k : Int) := by omega
  have k1 : (k : Int) ≤ (c1 : Int) := by omega
  have k2 : (0 : Int) ≤ (k : Int) + 1 := by omega
  have k3 : (k : Int) + 1 ≤ (rs.length : Int) := by omega
  have k4 : (rs.length : Int) ≤ (c1 : Int) := by omega
  have hkk : (k : Int) < (rs.length : Int) := by omega
  have hkb : -9223372036854775808 ≤ (k : Int) + 1 ∧ (k : Int) + 1 ≤ 9223372036854775807 := ⟨by omega, by omega⟩
  have hkt : -9223372036854775808 ≤ t + (rs.length : Int) ∧ t + (rs.length : Int) ≤ 9223372036854775807 := ⟨by omega, by omega⟩
  have WK1 := Lib.hid (IntWalk.wrap64_in _ hkb)
  have WK2 := Lib.hid (IntWalk.i64_in _ hkb)
  have WT1 := Lib.hid (IntWalk.wrap64_in _ hkt)
  have WT2 := Lib.hid (IntWalk.i64_in _ hkt)
  obtain ⟨i0, hi, hi0, hi1, hi2'⟩ := info_parts info_msg
  have HI := Lib.hid hi
  have HI0 := Lib.hid hi0
  have HI1 := Lib.hid hi1
  have HI2 := Lib.hid hi2'
  obtain ⟨W, hW⟩ : ∃ W, (w.alloc (.cells zm 33)) = W := ⟨_, rfl⟩
  have hWs : w.heap.size < W.heap.size := by rw [← hW]; exact b0.lt
  rw [hW] at HIN hb0 b0 hhd hsl x0 x1 x2 x3 x4 c z hpW
  have HW := Lib.hid hW
  have HB0 := Lib.hid hb0
  have HZ := Lib.hid b0
  have HR := Lib.hid hr
  have HSL := Lib.hid hsl
  have HHD := Lib.hid hhd
  have HLK := Lib.hid hlk
  have HLD := Lib.hid hld
  have HONE := Lib.hid hone
  have HPN := Lib.hid hpn
  have HPP := Lib.hid hpp
  clear hin hi2 hkd hkb hkt hW hb0 b0 hr hsl hhd hlk hld hone hM hmo hi hi0 hi1 hi2' hpn hpp
  by_cases ht0 : t < 0
  case' pos =>
    have hpk := HPN.out ht0
    have w1' := WT1.out
    have w2' := WT2.out
    rw [hpk] at w1' w2'
    go_enter Try.func17, Try.ntmps17
    go_upto_region 1 with fail
    rw [HW.out]
    go_upto_region 7 with fail
  case' neg =>
    have hpk := HPP.out ht0
    go_enter Try.func17, Try.ntmps17
    go_upto_region 1 with fail
    rw [HW.out]
    go_upto_region 7 with fail
  all_goals
    try clear w1' w2'
    clear hpk c z x0 x1 x2 x3 x4
    have b7 := Box.new W (mc ⟨.slice q1 m.ks.length d1, .slice q2 m.ss.length d2, m⟩) 33
    have hb7 : Below W.heap.size W (W.alloc (.cells (mc ⟨.slice q1 m.ks.length d1, .slice q2 m.ss.length d2, m⟩) 33)) := (Below.refl _ W).alloc (Nat.le_refl _) _
    obtain ⟨W7, hW7⟩ : ∃ W7, (W.alloc (.cells (mc ⟨.slice q1 m.ks.length d1, .slice q2 m.ss.length d2, m⟩) 33)) = W7 := ⟨_, rfl⟩
    rw [hW7] at b7 hb7 ⊢
    have HD7 := Lib.hid (HHD.out.below hb7)
    have HSL7 := Lib.hid (HSL.out.below hb7)
    have HX7 := Lib.hid (HIN.out.box.below hb7)
    have HZ7 := Lib.hid (HZ.out.below hb7)
    have HY7 := Lib.hid b7
    have HB7 := Lib.hid (HB0.out.trans (hb7.mono (by omega)))
    have hs7 := hb7.size
    have hl7 := b7.lt
    clear hW7 b7 hb7
    have c7 := HX7.out.rd.1
    go_wp2_with (first | (at_builtin; refine wpList_append_sl encM_len rfl (.tmp 39) (.tmp 45) 22 rfl W7.heap.size 33 i0 _ 80 Try.underlying22 HI.out HI0.out HI1.out HI2.out rfl (by decide) (v := .slice none 0 0) (xs := []) (ys := rs.take k) (by rfl) (by rfl) (World.ownsRow_nil _ _ _ _) HD7.out (fun x hx => HONE.out x (List.mem_of_mem_take hx)) (by rw [HLK.out]; unfold maxLen; simp; omega) (by rw [HLK.out]; simp; omega) (Nat.le_refl _) ?_; intro v1 w5 hown5 hk5 hat5; rw [List.nil_append, HLK.out] at hown5; obtain ⟨p3, c3, rfl⟩ := owns_slice hown5; have hbb5 := hk5.below (B := W7.heap.size) (fun b e => by simp [Value.ownBlock] at e) (Nat.le_refl _); have hs6 := hbb5.size; obtain ⟨A, hAA, htl⟩ := (HSL7.out.below hbb5).tail (k := k + 1) (by omega); have HAA := Lib.hid hAA; have HTL := Lib.hid htl; have HO5 := Lib.hid hown5; have HAT5 := Lib.hid hat5; have HBB5 := Lib.hid hbb5; have c8 := (HX7.out.below hbb5).rd.1; clear hown5 hk5 hat5 hbb5 hAA htl; have w1' := WK1.out; have w2' := WK2.out) | (at_builtin; rw [HAA.out]; clear w1' w2'; refine wpList_append_sl encM_len rfl (.tmp 47) (.tmp 54) 22 rfl W7.heap.size 33 i0 _ 80 Try.underlying22 HI.out HI0.out HI1.out HI2.out rfl (by decide) (v := .slice p3 k c3) (xs := rs.take k) (ys := rs.drop (k + 1)) (by rfl) (by rfl) (by rw [HLK.out] <;> exact HO5.out) HTL.out (fun x hx => HONE.out x (List.mem_of_mem_drop hx)) (by rw [HLK.out, HLD.out] <;> (unfold maxLen; omega)) (by rw [HLK.out, HLD.out] <;> omega) (by omega) ?_; intro v2 w6 hown6 hk6 hat6; rw [← List.eraseIdx_eq_take_drop_succ] at hown6; obtain ⟨p4, c4, rfl⟩ := owns_slice hown6; have HO6 := Lib.hid hown6; have hb6 : Below W7.heap.size W7 w6 := HBB5.out.trans (hk6.below (fun b e => (HO5.out.lt b e).1) (by omega)); have HB6 := Lib.hid hb6; have hs8 := hb6.size; obtain ⟨c9, z9⟩ := (HX7.out.below hb6).rd; obtain ⟨c10, z10⟩ := (HZ7.out.below hb6).rd; have c11 := (HY7.out.below hb6).rd.1; clear hown6 hk6 hat6 hb6 c8; have hne1 : ¬ w.heap.size = p := (by omega); have hne2 : ¬ W.heap.size = p := (by omega)))
    refine bodyPost_gen (fun W' => Kept (fun b => b = p ∨ b = w.heap.size) w6 W' ∧ Box W' p #[.slice p4 (rs.eraseIdx k).length c4] 44 ∧ Box W' w.heap.size (mc ⟨.slice q1 m.ks.length d1, .slice q2 m.ss.length d2, m⟩) 33) ⟨?_, ?_, ?_⟩ ?_
    · exact ((((((Kept.refl _ w6).setCell _ _ (by simp)).setCell _ _ (by simp)).setCell _ _ (by simp)).setCell _ _ (by simp)).setCell _ _ (by simp)).setCell _ _ (by simp)
    · exact ((((((HX7.out.below HB6.out).set _).other _ (by omega)).other _ (by omega)).other _ (by omega)).other _ (by omega)).other _ (by omega)
    · exact ((((((HZ7.out.below HB6.out).other _ (by omega)).set _).set _).set _).set _).set _
    rintro W' ⟨hk, hbx, hbm⟩
    obtain ⟨r0, _⟩ := hbm.rd
    refine bodyPost_ret (v := .tuple #[mv ⟨.slice q1 m.ks.length d1, .slice q2 m.ss.length d2, m⟩, .bool true]) ?_ rfl ?_
    · simp [results, Try.results17, go_sem, r0]
    · have hbw : Below w.heap.size w w6 := HB7.out.trans (HB6.out.mono (by omega))
      have hSp : ∀ k, S k → ¬ k = p := fun k hk e => HIN0.out.np (e ▸ hk)
      have hmo : ∀ x ∈ rs, Mo (fun b => S b ∧ (Value.slice p4 (rs.eraseIdx k).length c4).ownBlock ≠ some b) W' x := fun x hx => by
        have h1 := (HIN0.out.mo x hx).mono (T := fun b => S b ∧ b < w.heap.size) (fun b hb s => ⟨s.1, hb⟩)
        exact ((h1.below hbw).kept hk (fun b _ s e => by
          rcases e with e | e
          · exact hSp b s.1 e
          · have := s.2
            omega)).mono (fun b _ s => ⟨s.1, fun e => by have := (HO6.out.lt b e).1; have := s.2; omega⟩)
      refine HT.out _ _ ⟨_, rfl, HR.out, (hmo _ (List.mem_of_getElem? HR.out)).mono (fun b _ s => s.1), ⟨_, rs.eraseIdx k, rfl, hbx, ?_, fun b e => hS b (by have := (HO6.out.lt b e).1; omega), fun x hx => hmo x (List.mem_of_mem_eraseIdx hx), HIN0.out.np, fun x hx => HIN0.out.few x (List.mem_of_mem_eraseIdx hx)⟩, ?_⟩
      · exact owns_lower (owns_keep HO6.out (fun b e => hk.block b (HO6.out.lt b e).2 (fun e' => by
          have := (HO6.out.lt b e).1
          omega))) (by omega)
      · exact (Kept.of_below (F := fun _ => False) hbw (Nat.le_refl _)).trans hk (fun b _ e => e.elim) (fun b hb e => by omega)
end Go.Proofs.Ytmmneeikcnapmaa

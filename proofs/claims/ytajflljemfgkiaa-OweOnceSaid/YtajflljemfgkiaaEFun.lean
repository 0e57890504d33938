/- The small functions round the owe: SameNames, Same, Has, Copy; slices.Clone of alerts. (Printed by tools/owefun.py.) -/
import Derived.Test.YtajflljemfgkiaaEMap
import Derived.Laws.StructEq
import Derived.Laws.Cover2
import Derived.Laws.Tables
namespace Go.Proofs.Ytajflljemfgkiaa
open Go.RowKit
attribute [local go_sem] Oper.semAt_some

set_option maxRecDepth 100000 in
set_option maxHeartbeats 1000000 in
theorem sameNames_any {S T : Nat → Prop} {a b : Value} {xs : List ByteArray} {w : World} (h1 : Sl S w a 1 encS xs) (h2 : Sl T w b 1 encS xs) (hn : xs.length ≤ 100000) :
    Calls Try.prog 18 #[a, b] w (Tells (.bool true) w) := by
  obtain ⟨p1, c1, rfl, _, hc1⟩ := h1.len
  obtain ⟨p2, c2, rfl, _, _⟩ := h2.len
  have H1 := Lib.hid h1
  have H2 := Lib.hid h2
  clear h1 h2 hc1
  go_enter Try.func18, Try.ntmps18
  go_wp2_with fail
  go_loopw [5] (fun i wr => ∃ k : Nat, i = .int .i64 k ∧ k ≤ xs.length ∧ Below w.heap.size w wr) (fun i _ => xs.length - (intOf i).toNat)
  · exact ⟨0, rfl, by omega, Below.refl _ _⟩
  obtain ⟨k, rfl, hk, hB⟩ := hrel
  by_cases hlt : k < xs.length
  · obtain ⟨x, hx⟩ : ∃ x, xs[k]? = some x := ⟨_, List.getElem?_eq_getElem hlt⟩
    obtain ⟨a1, rfl, _, _, g1⟩ := (H1.out.below hB).at hx
    obtain ⟨a2, rfl, _, _, g2⟩ := (H2.out.below hB).at hx
    have x0 := g1 k x hx 0 _ rfl
    have y0 := g2 k x hx 0 _ rfl
    rw [Nat.mul_one, Addr.add_zero'] at x0 y0
    have hkk : (k : Int) < (xs.length : Int) := by omega
    clear g1 g2 hx
    go_wp2_with fail
    refine still_all (by kernel_rfl) (by kernel_rfl) ?_
    repeat still_step
    refine wpStill_nil ?_
    clear x0 y0
    go_wp2_with fail
    exact ⟨⟨k + 1, by simp, by omega, hB.drew⟩, by simp [intOf]; omega⟩
  · obtain rfl : k = xs.length := by omega
    go_wp2_with fail
    go_ret
    exact ⟨rfl, hB⟩
set_option maxRecDepth 100000 in
set_option maxHeartbeats 1000000 in
theorem same_any {S T : Nat → Prop} {x y : Mr} {w : World} (h1 : Mo S w x) (h2 : Mo T w y) (he : y.m = x.m) (hf : Few x.m) :
    Calls Try.prog 17 #[mv x, mv y] w (Tells (.bool true) w) := by
  obtain ⟨kv, sv, m⟩ := x
  obtain ⟨kv2, sv2, m2⟩ := y
  obtain rfl : m2 = m := he
  have hb0 : Below w.heap.size w ((w.alloc (.cells (mc ⟨kv, sv, m2⟩) 33)).alloc (.cells (mc ⟨kv2, sv2, m2⟩) 33)) := ((Below.refl _ w).alloc (Nat.le_refl _) _).alloc (by simp) _
  have b0 := (Box.new w (mc ⟨kv, sv, m2⟩) 33).alloc (.cells (mc ⟨kv2, sv2, m2⟩) 33)
  have b1 := Box.new (w.alloc (.cells (mc ⟨kv, sv, m2⟩) 33)) (mc ⟨kv2, sv2, m2⟩) 33
  rw [World.size_alloc] at b1
  have HC := Lib.hid (sameNames_any (h1.k.below hb0) (h2.k.below hb0) (by have := hf.1; omega))
  have s1 := h1.s.below hb0
  have s2 := h2.s.below hb0
  obtain ⟨p1, c1, e1, _, _⟩ := s1.len
  obtain ⟨p2, c2, e2, _, _⟩ := s2.len
  obtain ⟨p3, c3, e3, _, _⟩ := h1.k.len
  obtain ⟨p4, c4, e4, _, _⟩ := h2.k.len
  simp only at e1 e2 e3 e4
  subst e1 e2 e3 e4
  have S1 := Lib.hid s1
  have S2 := Lib.hid s2
  have HB := Lib.hid hb0
  have hn : m2.ss.length ≤ 100000 := hf.2
  clear h1 h2 s1 s2 hf
  obtain ⟨W, hW⟩ : ∃ W, (w.alloc (.cells (mc ⟨.slice p3 m2.ks.length c3, .slice p1 m2.ss.length c1, m2⟩) 33)).alloc (.cells (mc ⟨.slice p4 m2.ks.length c4, .slice p2 m2.ss.length c2, m2⟩) 33) = W := ⟨_, rfl⟩
  rw [hW] at HC HB S1 S2 b0 b1
  have HW := Lib.hid hW
  clear hW hb0
  obtain ⟨b, hb⟩ : ∃ b, b = w.heap.size := ⟨_, rfl⟩
  rw [← hb] at b0 b1
  go_enter Try.func17, Try.ntmps17
  go_wp2_with fail
  rw [HW.out]
  simp only [← hb]
  obtain ⟨c0, f0⟩ := b0.rd
  obtain ⟨d0, g0⟩ := b1.rd
  clear hb
  go_wp2_with fail
  refine HC.out.mono ?_
  rintro e w1 ⟨rfl, hb⟩
  have HB1 := Lib.hid (below_then HB.out hb)
  have S1' := Lib.hid (S1.out.below hb)
  have S2' := Lib.hid (S2.out.below hb)
  have b0' := b0.below hb
  have b1' := b1.below hb
  clear c0 f0 d0 g0 b0 b1 hb S1 S2 HC HW HB
  obtain ⟨c0, f0⟩ := b0'.rd
  obtain ⟨d0, g0⟩ := b1'.rd
  go_wp2_with fail
  go_loopw [5] (fun i wr => ∃ k : Nat, i = .int .i64 k ∧ k ≤ m2.ss.length ∧ Below w1.heap.size w1 wr) (fun i _ => m2.ss.length - (intOf i).toNat)
  · exact ⟨0, rfl, by omega, Below.refl _ _⟩
  obtain ⟨k, rfl, hk, hB⟩ := hrel
  have q0 := (b0'.below hB).rd.1
  have q1 := (b1'.below hB).rd.1
  by_cases hlt : k < m2.ss.length
  · obtain ⟨z, hz⟩ : ∃ z, m2.ss[k]? = some z := ⟨_, List.getElem?_eq_getElem hlt⟩
    obtain ⟨a1, rfl, _, _, g1⟩ := (S1'.out.below hB).at hz
    obtain ⟨a2, rfl, _, _, g2⟩ := (S2'.out.below hB).at hz
    have x0 := g1 k z hz 0 _ rfl
    have y0 := g2 k z hz 0 _ rfl
    rw [Nat.mul_one, Addr.add_zero'] at x0 y0
    have hkk : (k : Int) < (m2.ss.length : Int) := by omega
    clear g1 g2 hz
    go_wp2_with fail
    refine still_all (by kernel_rfl) (by kernel_rfl) ?_
    repeat still_step
    refine wpStill_nil ?_
    clear x0 y0
    go_wp2_with fail
    exact ⟨⟨k + 1, by simp, by omega, hB.drew⟩, by simp [intOf]; omega⟩
  · obtain rfl : k = m2.ss.length := by omega
    go_wp2_with fail
    go_ret
    exact ⟨rfl, below_then HB1.out hB⟩
def OwnsA (xs : List Al) (w : World) (en : Ending) (w' : World) : Prop := ∃ v, en = .returned v ∧ w'.ownsRow w.heap.size 39 5 v xs.length (xs.flatMap encA) ∧ Below w.heap.size w w'
set_option maxRecDepth 100000 in
theorem cloneA_any {S : Nat → Prop} {v : Value} {xs : List Al} {w : World} (h : Sl S w v 5 encA xs) (hn : xs.length ≤ 100000) :
    Calls Try.prog 26 #[v] w (OwnsA xs w) := by
  obtain ⟨i0, hi, hz0, hz1, hz2⟩ := info_parts info_alert
  have HI := Lib.hid hi
  rcases h with ⟨rfl, rfl⟩ | ⟨a, cap, rfl, h1, h2, h3, h4⟩
  · clear hi
    have he := fun w' => run_eql_nil_slice (P := Try.prog) w' 27 39 none 0 0 0 0 Try.underlying27
    go_enter Try.func26, Try.ntmps26
    go_wp2
    go_ret
    exact ⟨_, rfl, World.ownsRow_nil _ _ _ _, Below.refl _ _⟩
  · have hb0 : Below w.heap.size w (w.alloc (.cells #[] 39)) := (Below.refl _ w).alloc (Nat.le_refl _) _
    have h : Sl S w (.slice (some a) xs.length cap) 5 encA xs := .inr ⟨a, cap, rfl, h1, h2, h3, h4⟩
    have H := Lib.hid (h.below hb0)
    have HO := Lib.hid (World.ownsRow_lit (size := 5) (base := w.heap.size) (e := 39) w #[] 0 (Nat.le_refl _) (by decide) rfl)
    have HB := Lib.hid hb0
    have he := fun w' => Lib.run_eql_slice_nil (P := Try.prog) w' 27 39 (some a) xs.length cap 0 0 Try.underlying27
    clear h h1 h2 h3 h4 hi hb0
    go_enter Try.func26, Try.ntmps26
    go_wp2_with (at_builtin; refine wpList_append_sl encA_len rfl (.tmp 5) (.tmp 6) 27 rfl w.heap.size 39 i0 _ 48 Try.underlying27 HI.out hz0 hz1 hz2 rfl (by decide) (v := .slice (some ⟨w.heap.size, 0, none⟩) 0 0) (xs := []) (ys := xs) rfl rfl HO.out H.out (fun x _ u hu => encA_one x u hu) (by unfold maxLen; simp; omega) (by simp; omega) HB.out.size ?_; intro v' w1 hown hk hat)
    go_ret
    rw [List.nil_append] at hown
    exact ⟨_, rfl, hown, HB.out.trans (hk.below (fun k e => by cases e; exact Nat.le_refl _) HB.out.size)⟩
theorem guard_alert : Try.prog.eqGuardType Try.prog.depth 39 = false := by kernel_rfl
theorem equal_alert (x : Al) (w : World) : (Op.equalIn 10000 39 (av x) (av x)).run Try.prog w = .ok true w := by
  have u1 := Try.underlying9
  have a1 := Try.isAgg9
  have z1 := Try.sizeOf9
  have u2 := Try.underlying26
  have a2 := Try.isAgg26
  have z2 := Try.sizeOf26
  have u3 := Try.underlying3
  have a3 := Try.isAgg3
  have z3 := Try.sizeOf3
  have u4 := Try.underlying5
  have a4 := Try.isAgg5
  have z4 := Try.sizeOf5
  have hS : Try.prog.underlying 39 = some (.struct (Try.prog.fieldsOf 39)) := by kernel_rfl
  rw [show (10000 : Nat) = 9997 + 1 + 1 + 1 from rfl, run_equalIn_agg w (9997 + 1 + 1) 39 _ _ hS (by kernel_rfl)]
  simp only [Program.fieldsOf, Try.underlying39]
  go_simp
def hasK (l : List ByteArray) (s : ByteArray) : Bool := l.any (fun x => decide (x = s))
theorem hasK_iff {l : List ByteArray} {s : ByteArray} : hasK l s = true ↔ s ∈ l := by
  unfold hasK
  rw [List.any_eq_true]
  constructor
  · rintro ⟨x, hx, h⟩
    have : x = s := by simpa using h
    exact this ▸ hx
  · exact fun h => ⟨s, h, by simp⟩
theorem bytes_eq {a b : ByteArray} (h : a.toList = b.toList) : a = b := by
  rw [ByteArray.toList_eq, ByteArray.toList_eq] at h
  exact WideShapes.bytes_inj h
theorem str_eq (a : ByteArray) : (a.toList == a.toList) = true := by simp
theorem str_ne {a b : ByteArray} (h : a ≠ b) : (a.toList == b.toList) = false := by
  rw [beq_eq_false_iff_ne]
  exact fun e => h (bytes_eq e)
set_option maxRecDepth 100000 in
set_option maxHeartbeats 1000000 in
theorem has_any {S : Nat → Prop} {v : Value} {l : List ByteArray} {s : ByteArray} {w : World} (h : Sl S w v 1 encS l) (hn : l.length ≤ 100000) : Calls Try.prog 23 #[v, .string s] w (Is (.bool (hasK l s)) w) := by
  obtain ⟨p, c, rfl, -, -⟩ := h.len
  have HL := Lib.hid h
  clear h
  go_enter Try.func23, Try.ntmps23
  go_wp2_with fail
  go_loopw [5] (fun iv_ wr => ∃ k : Nat, iv_ = .int .i64 k ∧ k ≤ l.length ∧ (∀ x ∈ l.take k, x ≠ s) ∧ wr = w) (fun iv_ _ => l.length - (intOf iv_).toNat)
  · exact ⟨0, rfl, by omega, (fun x hx => by simp at hx), rfl⟩
  obtain ⟨k, rfl, hk, hF, rfl⟩ := hrel
  have HF := Lib.hid hF
  clear hF
  by_cases hlt : k < l.length
  · obtain ⟨x, hx⟩ : ∃ x, l[k]? = some x := ⟨_, List.getElem?_eq_getElem hlt⟩
    obtain ⟨ad, rfl, -, -, hrow⟩ := HL.out.at hx
    have x0 := hrow k _ hx 0 _ rfl
    rw [Addr.add_zero', Nat.mul_one] at x0
    have hkk : (k : Int) < (l.length : Int) := by omega
    have HX := Lib.hid hx
    clear hrow hx
    by_cases hxs : x = s
    · subst hxs
      have HD : Hid (hasK l x = true) := Lib.hid (hasK_iff.2 (List.mem_of_getElem? HX.out))
      go_wp2_with fail
      go_ret
      exact ⟨by rw [HD.out]; rfl, rfl⟩
    · have hb : (x.toList == s.toList) = false := str_ne hxs
      have HS : Hid (∀ y ∈ l.take (k + 1), y ≠ s) := Lib.hid (by
        intro y hy
        rw [take_snoc' HX.out] at hy
        rcases List.mem_append.1 hy with hy | hy
        · exact HF.out y hy
        · obtain rfl := List.mem_singleton.1 hy
          exact hxs)
      clear hxs
      go_wp2_with fail
      exact ⟨⟨k + 1, by simp, by omega, HS.out, trivial⟩, by simp [intOf]; omega⟩
  · obtain rfl : k = l.length := by omega
    rw [List.take_length] at HF
    have HD : Hid (hasK l s = false) := Lib.hid (by
      rw [Bool.eq_false_iff]
      exact fun h => HF.out s (hasK_iff.1 h) rfl)
    go_wp2_with fail
    go_ret
    exact ⟨by rw [HD.out]; rfl, rfl⟩
set_option maxRecDepth 100000 in
theorem copy_any {S : Nat → Prop} {v : Value} {xs : List Al} {w : World} (h : Sl S w v 5 encA xs) (hn : xs.length ≤ 100000) : Calls Try.prog 11 #[v] w (OwnsA xs w) := by
  obtain ⟨i0, hi, hz0, hz1, hz2⟩ := info_parts info_alert
  have HI := Lib.hid hi
  have H := Lib.hid h
  obtain ⟨p, c, rfl, -, -⟩ := h.len
  clear h hi
  go_enter Try.func11, Try.ntmps11
  go_wp2_with (at_builtin; refine wpList_append_sl encA_len rfl (.tmp 4) (.tmp 5) 27 rfl w.heap.size 39 i0 _ 48 Try.underlying27 HI.out hz0 hz1 hz2 rfl (by decide) (v := .slice none 0 0) (xs := []) (ys := xs) rfl rfl (World.ownsRow_nil _ _ _ _) H.out (fun x _ u hu => encA_one x u hu) (by unfold maxLen; simp; omega) (by simp; omega) (Nat.le_refl _) ?_; intro v' w1 hown hk hat)
  go_ret
  rw [List.nil_append] at hown
  exact ⟨_, rfl, hown, hk.below (fun k e => by cases e) (Nat.le_refl _)⟩
set_option maxRecDepth 100000 in
set_option maxHeartbeats 1000000 in
theorem sameA_any {S T : Nat → Prop} {a b : Value} {xs : List Al} {w : World} (h1 : Sl S w a 5 encA xs) (h2 : Sl T w b 5 encA xs) (hn : xs.length ≤ 100000) : Calls Try.prog 16 #[a, b] w (Tells (.bool true) w) := by
  obtain ⟨p1, c1, rfl, _, hc1⟩ := h1.len
  obtain ⟨p2, c2, rfl, _, _⟩ := h2.len
  have H1 := Lib.hid h1
  have H2 := Lib.hid h2
  clear h1 h2 hc1
  go_enter Try.func16, Try.ntmps16
  go_wp2_with fail
  go_loopw [5] (fun i wr => ∃ k : Nat, i = .int .i64 k ∧ k ≤ xs.length ∧ Below w.heap.size w wr) (fun i _ => xs.length - (intOf i).toNat)
  · exact ⟨0, rfl, by omega, Below.refl _ _⟩
  obtain ⟨k, rfl, hk, hB⟩ := hrel
  by_cases hlt : k < xs.length
  · obtain ⟨x, hx⟩ : ∃ x, xs[k]? = some x := ⟨_, List.getElem?_eq_getElem hlt⟩
    obtain ⟨a1, rfl, _, _, g1⟩ := (H1.out.below hB).at hx
    obtain ⟨a2, rfl, _, _, g2⟩ := (H2.out.below hB).at hx
    obtain ⟨x0, x1, x2, x3, x4⟩ := cells_A g1 hx
    obtain ⟨y0, y1, y2, y3, y4⟩ := cells_A g2 hx
    obtain ⟨r, b, s, si, t⟩ := x
    simp only at x0 x1 x2 x3 x4 y0 y1 y2 y3 y4
    have hkk : (k : Int) < (xs.length : Int) := by omega
    have hq := fun w => equal_alert ⟨r, b, s, si, t⟩ w
    have hg := guard_alert
    clear g1 g2 hx
    go_wp2_with fail
    refine wp_region_ordH [0, 1, 2, 3, 4, 5, 6, 7, 8] (fun w' => Below wr.heap.size wr w') (by kernel_rfl) (by kernel_rfl) ?_
    have hb0 : Below wr.heap.size wr wr.drew := (Below.refl _ wr).drew
    iterate 8 ((first | (refine ordH_free (v := ?_) rfl (by kernel_rfl) (fun _ _ _ h => h) (Or.inl ⟨rfl, fun w' hS => ?_⟩) hb0 ?_; rotate_left; (have x0 := cell_below x0 hS; have x1 := cell_below x1 hS; have x2 := cell_below x2 hS; have x3 := cell_below x3 hS; have x4 := cell_below x4 hS; have y0 := cell_below y0 hS; have y1 := cell_below y1 hS; have y2 := cell_below y2 hS; have y3 := cell_below y3 hS; have y4 := cell_below y4 hS; go_simp <;> with_reducible rfl)) | (refine ordH_free (v := undef) rfl (by kernel_rfl) (fun _ _ _ h => h) (Or.inr ⟨rfl, rfl⟩) hb0 ?_)); (simp only [Act.put, List.setIfInBounds_toArray, List.set_cons_zero, List.set_cons_succ]))
    iterate 1 ((first | (refine ordH_free (v := ?_) rfl (by kernel_rfl) (fun _ _ _ h => h) (Or.inl ⟨rfl, fun w' hS => ?_⟩) hb0 ?_; rotate_left; (skip; go_simp <;> with_reducible rfl)) | (refine ordH_free (v := undef) rfl (by kernel_rfl) (fun _ _ _ h => h) (Or.inr ⟨rfl, rfl⟩) hb0 ?_)); (simp only [Act.put, List.setIfInBounds_toArray, List.set_cons_zero, List.set_cons_succ]))
    refine ⟨by kernel_rfl, ?_⟩
    have HB1 := Lib.hid (below_then hB hb0)
    clear x0 x1 x2 x3 x4 y0 y1 y2 y3 y4 hb0 hq hg hB
    go_wp2_with fail
    exact ⟨⟨k + 1, by simp, by omega, HB1.out⟩, by simp [intOf]; omega⟩
  · obtain rfl : k = xs.length := by omega
    go_wp2_with fail
    go_ret
    exact ⟨rfl, hB⟩
end Go.Proofs.Ytajflljemfgkiaa

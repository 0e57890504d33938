/- The document's SameMessage, SameMessages, Same. (Printed out of XEFun and XNNet, Same by hand.) -/
import Derived.Test.YtfaafndaelmbfaaOPgl
namespace Go.Proofs.Ytfaafndaelmbfaa
open Go.RowKit
attribute [local go_sem] Oper.semAt_some

set_option maxRecDepth 100000 in
set_option maxHeartbeats 1000000 in
theorem rsame_any {S T : Nat → Prop} {x y : Mr} {w : World} (h1 : Mo S w x) (h2 : Mo T w y) (he : y.m = x.m) (hf : Few x.m) :
    Calls Try.prog 35 #[mv x, mv y] w (Tells (.bool true) w) := by
  obtain ⟨kv, sv, m⟩ := x
  obtain ⟨kv2, sv2, m2⟩ := y
  obtain rfl : m2 = m := he
  have hb0 : Below w.heap.size w ((w.alloc (.cells (mc ⟨kv, sv, m2⟩) 31)).alloc (.cells (mc ⟨kv2, sv2, m2⟩) 31)) := ((Below.refl _ w).alloc (Nat.le_refl _) _).alloc (by simp) _
  have b0 := (Box.new w (mc ⟨kv, sv, m2⟩) 31).alloc (.cells (mc ⟨kv2, sv2, m2⟩) 31)
  have b1 := Box.new (w.alloc (.cells (mc ⟨kv, sv, m2⟩) 31)) (mc ⟨kv2, sv2, m2⟩) 31
  rw [World.size_alloc] at b1
  have k1 := h1.k.below hb0
  have k2 := h2.k.below hb0
  have s1 := h1.s.below hb0
  have s2 := h2.s.below hb0
  obtain ⟨p1, c1, e1, _, _⟩ := s1.len
  obtain ⟨p2, c2, e2, _, _⟩ := s2.len
  obtain ⟨p3, c3, e3, _, _⟩ := h1.k.len
  obtain ⟨p4, c4, e4, _, _⟩ := h2.k.len
  simp only at e1 e2 e3 e4
  subst e1 e2 e3 e4
  have S1 := Lib.hid s1
  have S2 := Lib.hid s2
  have K1 := Lib.hid k1
  have K2 := Lib.hid k2
  have HB := Lib.hid hb0
  have hn : m2.ss.length ≤ 100000 := hf.2
  have hn1 : m2.ks.length ≤ 100000 := hf.1
  clear h1 h2 s1 s2 k1 k2 hf
  obtain ⟨W, hW⟩ : ∃ W, (w.alloc (.cells (mc ⟨.slice p3 m2.ks.length c3, .slice p1 m2.ss.length c1, m2⟩) 31)).alloc (.cells (mc ⟨.slice p4 m2.ks.length c4, .slice p2 m2.ss.length c2, m2⟩) 31) = W := ⟨_, rfl⟩
  rw [hW] at HB S1 S2 K1 K2 b0 b1
  have HW := Lib.hid hW
  clear hW hb0
  obtain ⟨b, hb⟩ : ∃ b, b = w.heap.size := ⟨_, rfl⟩
  rw [← hb] at b0 b1
  go_enter Try.func35, Try.ntmps35
  go_wp2_with fail
  rw [HW.out]
  simp only [← hb]
  obtain ⟨c0, f0⟩ := b0.rd
  obtain ⟨d0, g0⟩ := b1.rd
  clear hb
  go_wp2_with fail
  go_loopw [5] (fun i wr => ∃ k : Nat, i = .int .i64 k ∧ k ≤ m2.ks.length ∧ Below W.heap.size W wr) (fun i _ => m2.ks.length - (intOf i).toNat)
  · exact ⟨0, rfl, by omega, Below.refl _ _⟩
  obtain ⟨k, rfl, hk, hB⟩ := hrel
  have q0 := (b0.below hB).rd.1
  have q1 := (b1.below hB).rd.1
  by_cases hlt : k < m2.ks.length
  · obtain ⟨z, hz⟩ : ∃ z, m2.ks[k]? = some z := ⟨_, List.getElem?_eq_getElem hlt⟩
    obtain ⟨a1, rfl, _, _, g1⟩ := (K1.out.below hB).at hz
    obtain ⟨a2, rfl, _, _, g2⟩ := (K2.out.below hB).at hz
    have x0 := g1 k z hz 0 _ rfl
    have y0 := g2 k z hz 0 _ rfl
    rw [Nat.mul_one, Addr.add_zero'] at x0 y0
    have hkk : (k : Int) < (m2.ks.length : Int) := by omega
    clear g1 g2 hz c0 f0 d0 g0
    go_wp2_with fail
    refine still_all (by kernel_rfl) (by kernel_rfl) ?_
    repeat still_step
    refine wpStill_nil ?_
    clear x0 y0 q0 q1
    go_wp2_with fail
    exact ⟨⟨k + 1, by simp, by omega, hB.drew⟩, by simp [intOf]; omega⟩
  · obtain rfl : k = m2.ks.length := by omega
    obtain ⟨w1, hw1⟩ : ∃ w1, w1 = wr := ⟨_, rfl⟩
    rw [← hw1] at hB q0 q1 ⊢
    clear hw1 c0 f0 d0 g0
    have HB1 := Lib.hid (HB.out.trans (hB.mono HB.out.size))
    have S1' := Lib.hid (S1.out.below hB)
    have S2' := Lib.hid (S2.out.below hB)
    have b0' := b0.below hB
    have b1' := b1.below hB
    clear b0 b1 hB S1 S2 K1 K2 HW HB hk
    go_wp2_with fail
    clear q0 q1
    go_loopw [6] (fun i wr => ∃ k : Nat, i = .int .i64 k ∧ k ≤ m2.ss.length ∧ Below w1.heap.size w1 wr) (fun i _ => m2.ss.length - (intOf i).toNat)
    · exact ⟨0, rfl, by omega, Below.refl _ _⟩
    obtain ⟨k, rfl, hk, hB⟩ := hrel
    have q0 := (b0'.below hB).rd.1
    have q1 := (b1'.below hB).rd.1
    by_cases hlt : k < m2.ss.length
    · obtain ⟨z, hz⟩ : ∃ z, m2.ss[k]? = some z := ⟨_, List.getElem?_eq_getElem hlt⟩
      obtain ⟨a1, rfl, _, _, g1⟩ := (S1'.out.below hB).at hz
      obtain ⟨a2, rfl, _, _, g2⟩ := (S2'.out.below hB).at hz
      have x0 := g1 k z hz 0 _ rfl
      have y0 := g2 k z hz 0 _ rfl
      rw [Nat.mul_one, Addr.add_zero'] at x0 y0
      have hkk : (k : Int) < (m2.ss.length : Int) := by omega
      clear g1 g2 hz
      go_wp2_with fail
      refine still_all (by kernel_rfl) (by kernel_rfl) ?_
      repeat still_step
      refine wpStill_nil ?_
      clear x0 y0
      go_wp2_with fail
      exact ⟨⟨k + 1, by simp, by omega, hB.drew⟩, by simp [intOf]; omega⟩
    · obtain rfl : k = m2.ss.length := by omega
      go_wp2_with fail
      go_ret
      exact ⟨rfl, below_then HB1.out hB⟩
/-- a slice of messages -/
def Msl (S : Nat → Prop) (W : World) (v : Value) (xs : List Ms) : Prop := ∃ rs : List Mr, rs.map Mr.m = xs ∧ Sl S W v 5 encM rs ∧ ∀ r ∈ rs, Mo S W r
section
variable {S T F : Nat → Prop} {W W' : World} {v : Value} {xs : List Ms}
theorem Msl.kept (h : Msl S W v xs) (hk : Kept F W W') (hf : ∀ k, k < W.heap.size → S k → ¬ F k) : Msl S W' v xs := by
  obtain ⟨rs, h1, h2, h3⟩ := h
  exact ⟨rs, h1, h2.kept hk hf, fun r hr => (h3 r hr).kept hk hf⟩
theorem Msl.below (h : Msl S W v xs) (hb : Below W.heap.size W W') : Msl S W' v xs := h.kept (F := fun _ => False) (kept_of_below hb) (fun _ _ _ x => x)
theorem Msl.mono (h : Msl S W v xs) (hS : ∀ k, k < W.heap.size → S k → T k) : Msl T W v xs := by
  obtain ⟨rs, h1, h2, h3⟩ := h
  exact ⟨rs, h1, h2.mono hS, fun r hr => (h3 r hr).mono hS⟩
theorem Msl.slice (h : Msl S W v xs) : ∃ p c, v = .slice p xs.length c := by
  obtain ⟨rs, rfl, h2, h3⟩ := h
  obtain ⟨p, c, e, _⟩ := h2.len
  exact ⟨p, c, by rw [e, List.length_map]⟩
/-- the cells of a message at an address -/
structure Cm (W : World) (a : Addr) (r : Mr) : Prop where
  c0 : W.cell? a = some (.int .u32 r.m.rule)
  c1 : W.cell? ⟨a.block, a.off + 1, none⟩ = some (.string r.m.route)
  c2 : W.cell? ⟨a.block, a.off + 2, none⟩ = some (.int .i64 r.m.at_)
  c3 : W.cell? ⟨a.block, a.off + 3, none⟩ = some r.kv
  c4 : W.cell? ⟨a.block, a.off + 4, none⟩ = some r.sv
theorem Cm.below {a : Addr} {r : Mr} (h : Cm W a r) (hb : Below W.heap.size W W') : Cm W' a r := ⟨cell_below h.c0 hb, cell_below h.c1 hb, cell_below h.c2 hb, cell_below h.c3 hb, cell_below h.c4 hb⟩
theorem Cm.of {a : Addr} {rs : List Mr} (h : RowAt W a 5 encM rs) {i : Nat} {r : Mr} (hr : rs[i]? = some r) : Cm W (a.add (i * 5)) r :=
  ⟨h i r hr 0 _ rfl, h i r hr 1 _ rfl, h i r hr 2 _ rfl, h i r hr 3 _ rfl, h i r hr 4 _ rfl⟩
theorem Msl.at {p : Option Addr} {n c : Nat} (h : Msl S W (.slice p n c) xs) {i : Nat} {x : Ms} (hx : xs[i]? = some x) : ∃ a r, p = some a ∧ r.m = x ∧ Mo S W r ∧ Cm W (a.add (i * 5)) r := by
  obtain ⟨rs, rfl, h2, h3⟩ := h
  rw [List.getElem?_map] at hx
  obtain ⟨r, hr, rfl⟩ := Option.map_eq_some_iff.1 hx
  obtain ⟨a, rfl, _, _, hM⟩ := h2.at hr
  exact ⟨a, r, rfl, rfl, h3 r (List.mem_of_getElem? hr), Cm.of hM hr⟩
theorem Msl.nil (S : Nat → Prop) (W : World) : Msl S W (.slice none 0 0) [] := ⟨[], rfl, Sl.nil S W, fun r hr => by cases hr⟩
end
set_option maxRecDepth 100000 in
set_option maxHeartbeats 1000000 in
theorem sames_any {S T : Nat → Prop} {a b : Value} {xs : List Ms} {w : World} (h1 : Msl S w a xs) (h2 : Msl T w b xs) (hf : ∀ x ∈ xs, Few x) (hn : xs.length ≤ 100000) :
    Calls Try.prog 20 #[a, b] w (Tells (.bool true) w) := by
  obtain ⟨p1, c1, rfl⟩ := h1.slice
  obtain ⟨p2, c2, rfl⟩ := h2.slice
  have H1 := Lib.hid h1
  have H2 := Lib.hid h2
  have HF := Lib.hid hf
  clear h1 h2 hf
  go_enter Try.func20, Try.ntmps20
  go_wp2_with fail
  go_loopw [5] (fun i wr => ∃ k : Nat, i = .int .i64 k ∧ k ≤ xs.length ∧ Below w.heap.size w wr) (fun i _ => xs.length - (intOf i).toNat)
  · exact ⟨0, rfl, by omega, Below.refl _ _⟩
  obtain ⟨k, rfl, hk, hB⟩ := hrel
  by_cases hlt : k < xs.length
  · obtain ⟨x, hx⟩ : ∃ x, xs[k]? = some x := ⟨_, List.getElem?_eq_getElem hlt⟩
    obtain ⟨a1, r1, rfl, e1, g1, x0, x1, x2, x3, x4⟩ := (H1.out.below hB).at hx
    obtain ⟨a2, r2, rfl, e2, g2, y0, y1, y2, y3, y4⟩ := (H2.out.below hB).at hx
    have hkk : (k : Int) < (xs.length : Int) := by omega
    have hk0 : (0 : Int) ≤ (k : Int) := by omega
    have G1 := Lib.hid g1
    have G2 := Lib.hid g2
    have HE : Hid (r2.m = r1.m) := Lib.hid (e2.trans e1.symm)
    have HX : Hid (Few r1.m) := Lib.hid (by rw [e1]; exact HF.out x (List.mem_of_getElem? hx))
    clear g1 g2 hx e1 e2
    go_wp2_with fail
    refine wp_region_ordH [0, 1, 2, 3, 4, 5, 6, 7, 8, 9] (fun w' => Below wr.heap.size wr w') (by kernel_rfl) (by kernel_rfl) ?_
    have hb0 : Below wr.heap.size wr wr.drew := (Below.refl _ wr).drew
    iterate 8 ((first | (refine ordH_free (v := ?_) rfl (by kernel_rfl) (fun _ _ _ h => h) (Or.inl ⟨rfl, fun w' hS => ?_⟩) hb0 ?_; rotate_left; (have x0 := cell_below x0 hS; have x1 := cell_below x1 hS; have x2 := cell_below x2 hS; have x3 := cell_below x3 hS; have x4 := cell_below x4 hS; have y0 := cell_below y0 hS; have y1 := cell_below y1 hS; have y2 := cell_below y2 hS; have y3 := cell_below y3 hS; have y4 := cell_below y4 hS; go_simp <;> with_reducible rfl)) | (refine ordH_free (v := undef) rfl (by kernel_rfl) (fun _ _ _ h => h) (Or.inr ⟨rfl, rfl⟩) hb0 ?_)); (simp only [Act.put, List.setIfInBounds_toArray, List.set_cons_zero, List.set_cons_succ]))
    refine ordH_sole rfl (by kernel_rfl) rfl (fun K hK => ?_)
    go_simp
    refine (rsame_any (G1.out.below hb0) (G2.out.below hb0) HE.out HX.out).mono ?_
    rintro e w1 ⟨rfl, hb1⟩
    replace hb1 := below_then hb0 hb1
    refine hK _ _ hb1 ?_
    clear hK K
    iterate 1 ((first | (refine ordH_free (v := ?_) rfl (by kernel_rfl) (fun _ _ _ h => h) (Or.inl ⟨rfl, fun w' hS => ?_⟩) hb1 ?_; rotate_left; (skip; go_simp <;> with_reducible rfl)) | (refine ordH_free (v := undef) rfl (by kernel_rfl) (fun _ _ _ h => h) (Or.inr ⟨rfl, rfl⟩) hb1 ?_)); (simp only [Act.put, List.setIfInBounds_toArray, List.set_cons_zero, List.set_cons_succ]))
    refine ⟨by kernel_rfl, ?_⟩
    go_wp2_with fail
    exact ⟨⟨k + 1, by simp, by omega, below_then hB hb1⟩, by simp [intOf]; omega⟩
  · obtain rfl : k = xs.length := by omega
    go_wp2_with fail
    go_ret
    exact ⟨rfl, hB⟩


/-- the cells of what is owed at an address -/
structure Co (W : World) (a : Addr) (o : Ow) : Prop where
  c0 : W.cell? a = some (.int .u32 o.m.m.rule)
  c1 : W.cell? ⟨a.block, a.off + 1, none⟩ = some (.string o.m.m.route)
  c2 : W.cell? ⟨a.block, a.off + 2, none⟩ = some (.int .i64 o.m.m.at_)
  c3 : W.cell? ⟨a.block, a.off + 3, none⟩ = some o.m.kv
  c4 : W.cell? ⟨a.block, a.off + 4, none⟩ = some o.m.sv
  c5 : W.cell? ⟨a.block, a.off + 5, none⟩ = some (.int .i64 o.tr)
  c6 : W.cell? ⟨a.block, a.off + 6, none⟩ = some (.int .i64 o.nx)
theorem Co.below {W W' : World} {a : Addr} {o : Ow} (h : Co W a o) (hb : Below W.heap.size W W') : Co W' a o := ⟨cell_below h.c0 hb, cell_below h.c1 hb, cell_below h.c2 hb, cell_below h.c3 hb, cell_below h.c4 hb, cell_below h.c5 hb, cell_below h.c6 hb⟩
theorem Co.of {W : World} {a : Addr} {rs : List Ow} (h : RowAt W a 7 encO rs) {i : Nat} {r : Ow} (hr : rs[i]? = some r) : Co W (a.add (i * 7)) r :=
  ⟨h i r hr 0 _ rfl, h i r hr 1 _ rfl, h i r hr 2 _ rfl, h i r hr 3 _ rfl, h i r hr 4 _ rfl, h i r hr 5 _ rfl, h i r hr 6 _ rfl⟩
section
variable {S T F : Nat → Prop} {W W' : World} {v : Value} {xs : List Ox}
theorem Osl.kept (h : Osl S W v xs) (hk : Kept F W W') (hf : ∀ k, k < W.heap.size → S k → ¬ F k) : Osl S W' v xs := by
  obtain ⟨rs, h1, h2, h3⟩ := h
  exact ⟨rs, h1, h2.kept hk hf, fun r hr => (h3 r hr).kept hk hf⟩
theorem Osl.mono (h : Osl S W v xs) (hS : ∀ k, k < W.heap.size → S k → T k) : Osl T W v xs := by
  obtain ⟨rs, h1, h2, h3⟩ := h
  exact ⟨rs, h1, h2.mono hS, fun r hr => (h3 r hr).mono hS⟩
theorem Osl.slice (h : Osl S W v xs) : ∃ p c, v = .slice p xs.length c := by
  obtain ⟨rs, rfl, h2, h3⟩ := h
  obtain ⟨p, c, e, _⟩ := h2.len
  exact ⟨p, c, by rw [e, List.length_map]⟩
theorem Osl.nil (S : Nat → Prop) (W : World) : Osl S W (.slice none 0 0) [] := ⟨[], rfl, Sl.nil S W, fun r hr => by cases hr⟩
theorem Osl.at {p : Option Addr} {n c : Nat} (h : Osl S W (.slice p n c) xs) {i : Nat} {x : Ox} (hx : xs[i]? = some x) : ∃ a r, p = some a ∧ r.pl = x ∧ Mo S W r.m ∧ Co W (a.add (i * 7)) r := by
  obtain ⟨rs, rfl, h2, h3⟩ := h
  rw [List.getElem?_map] at hx
  obtain ⟨r, hr, rfl⟩ := Option.map_eq_some_iff.1 hx
  obtain ⟨a, rfl, _, _, hM⟩ := h2.at hr
  exact ⟨a, r, rfl, rfl, h3 r (List.mem_of_getElem? hr), Co.of hM hr⟩
end
set_option maxRecDepth 100000 in
set_option maxHeartbeats 4000000 in
theorem rsameO_any {S T : Nat → Prop} {a b : Value} {xs : List Ox} {w : World} (h1 : Osl S w a xs) (h2 : Osl T w b xs) (hf : FewO xs) (hn : xs.length ≤ 100000) :
    Calls Try.prog 25 #[a, b] w (Tells (.bool true) w) := by
  obtain ⟨p1, c1, rfl⟩ := h1.slice
  obtain ⟨p2, c2, rfl⟩ := h2.slice
  have H1 := Lib.hid h1
  have H2 := Lib.hid h2
  have HF := Lib.hid hf
  clear h1 h2 hf
  go_enter Try.func25, Try.ntmps25
  go_wp2_with fail
  go_loopw [5] (fun i wr => ∃ k : Nat, i = .int .i64 k ∧ k ≤ xs.length ∧ Below w.heap.size w wr) (fun i _ => xs.length - (intOf i).toNat)
  · exact ⟨0, rfl, by omega, Below.refl _ _⟩
  obtain ⟨k, rfl, hk, hB⟩ := hrel
  by_cases hlt : k < xs.length
  · obtain ⟨x, hx⟩ : ∃ x, xs[k]? = some x := ⟨_, List.getElem?_eq_getElem hlt⟩
    obtain ⟨a1, r1, rfl, e1, g1, x0, x1, x2, x3, x4, x5, x6⟩ := (H1.out.below hB).at hx
    obtain ⟨a2, r2, rfl, e2, g2, y0, y1, y2, y3, y4, y5, y6⟩ := (H2.out.below hB).at hx
    have hkk : (k : Int) < (xs.length : Int) := by omega
    have hk0 : (0 : Int) ≤ (k : Int) := by omega
    have G1 := Lib.hid g1
    have G2 := Lib.hid g2
    have HX : Hid (Few r1.m.m) := Lib.hid (by have := HF.out x (List.mem_of_getElem? hx); rw [← e1] at this; exact this)
    have he : r2.pl = r1.pl := e2.trans e1.symm
    unfold Ow.pl at he
    simp only [Ox.mk.injEq] at he
    obtain ⟨he, he1, he2⟩ := he
    rw [he1] at y5
    rw [he2] at y6
    have HE := Lib.hid he
    clear g1 g2 hx e1 e2 he he1 he2
    go_wp2_with fail
    refine anyH_start 38 (fun w' => Below wr.heap.size wr w') (by kernel_rfl) rfl ?_
    have hb0 : Below wr.heap.size wr wr.drew := (Below.refl _ wr).drew
    ((first | (refine anyH_free (i := 0) (v := ?_) rfl (by kernel_rfl) (fun _ _ _ h => h) (Or.inl ⟨rfl, fun w' hS => ?_⟩) hb0 ?_; rotate_left; (have x0 := cell_below x0 hS; have x1 := cell_below x1 hS; have x2 := cell_below x2 hS; have x3 := cell_below x3 hS; have x4 := cell_below x4 hS; have y0 := cell_below y0 hS; have y1 := cell_below y1 hS; have y2 := cell_below y2 hS; have y3 := cell_below y3 hS; have y4 := cell_below y4 hS; go_simp <;> with_reducible rfl)) | (refine anyH_free (i := 0) (v := undef) rfl (by kernel_rfl) (fun _ _ _ h => h) (Or.inr ⟨rfl, rfl⟩) hb0 ?_)); (simp only [Act.put, List.setIfInBounds_toArray, List.set_cons_zero, List.set_cons_succ])); ((first | (refine anyH_free (i := 1) (v := ?_) rfl (by kernel_rfl) (fun _ _ _ h => h) (Or.inl ⟨rfl, fun w' hS => ?_⟩) hb0 ?_; rotate_left; (have x0 := cell_below x0 hS; have x1 := cell_below x1 hS; have x2 := cell_below x2 hS; have x3 := cell_below x3 hS; have x4 := cell_below x4 hS; have y0 := cell_below y0 hS; have y1 := cell_below y1 hS; have y2 := cell_below y2 hS; have y3 := cell_below y3 hS; have y4 := cell_below y4 hS; go_simp <;> with_reducible rfl)) | (refine anyH_free (i := 1) (v := undef) rfl (by kernel_rfl) (fun _ _ _ h => h) (Or.inr ⟨rfl, rfl⟩) hb0 ?_)); (simp only [Act.put, List.setIfInBounds_toArray, List.set_cons_zero, List.set_cons_succ])); ((first | (refine anyH_free (i := 2) (v := ?_) rfl (by kernel_rfl) (fun _ _ _ h => h) (Or.inl ⟨rfl, fun w' hS => ?_⟩) hb0 ?_; rotate_left; (have x0 := cell_below x0 hS; have x1 := cell_below x1 hS; have x2 := cell_below x2 hS; have x3 := cell_below x3 hS; have x4 := cell_below x4 hS; have y0 := cell_below y0 hS; have y1 := cell_below y1 hS; have y2 := cell_below y2 hS; have y3 := cell_below y3 hS; have y4 := cell_below y4 hS; go_simp <;> with_reducible rfl)) | (refine anyH_free (i := 2) (v := undef) rfl (by kernel_rfl) (fun _ _ _ h => h) (Or.inr ⟨rfl, rfl⟩) hb0 ?_)); (simp only [Act.put, List.setIfInBounds_toArray, List.set_cons_zero, List.set_cons_succ])); ((first | (refine anyH_free (i := 3) (v := ?_) rfl (by kernel_rfl) (fun _ _ _ h => h) (Or.inl ⟨rfl, fun w' hS => ?_⟩) hb0 ?_; rotate_left; (have x0 := cell_below x0 hS; have x1 := cell_below x1 hS; have x2 := cell_below x2 hS; have x3 := cell_below x3 hS; have x4 := cell_below x4 hS; have y0 := cell_below y0 hS; have y1 := cell_below y1 hS; have y2 := cell_below y2 hS; have y3 := cell_below y3 hS; have y4 := cell_below y4 hS; go_simp <;> with_reducible rfl)) | (refine anyH_free (i := 3) (v := undef) rfl (by kernel_rfl) (fun _ _ _ h => h) (Or.inr ⟨rfl, rfl⟩) hb0 ?_)); (simp only [Act.put, List.setIfInBounds_toArray, List.set_cons_zero, List.set_cons_succ])); ((first | (refine anyH_free (i := 4) (v := ?_) rfl (by kernel_rfl) (fun _ _ _ h => h) (Or.inl ⟨rfl, fun w' hS => ?_⟩) hb0 ?_; rotate_left; (have x0 := cell_below x0 hS; have x1 := cell_below x1 hS; have x2 := cell_below x2 hS; have x3 := cell_below x3 hS; have x4 := cell_below x4 hS; have y0 := cell_below y0 hS; have y1 := cell_below y1 hS; have y2 := cell_below y2 hS; have y3 := cell_below y3 hS; have y4 := cell_below y4 hS; go_simp <;> with_reducible rfl)) | (refine anyH_free (i := 4) (v := undef) rfl (by kernel_rfl) (fun _ _ _ h => h) (Or.inr ⟨rfl, rfl⟩) hb0 ?_)); (simp only [Act.put, List.setIfInBounds_toArray, List.set_cons_zero, List.set_cons_succ])); ((first | (refine anyH_free (i := 5) (v := ?_) rfl (by kernel_rfl) (fun _ _ _ h => h) (Or.inl ⟨rfl, fun w' hS => ?_⟩) hb0 ?_; rotate_left; (have x0 := cell_below x0 hS; have x1 := cell_below x1 hS; have x2 := cell_below x2 hS; have x3 := cell_below x3 hS; have x4 := cell_below x4 hS; have y0 := cell_below y0 hS; have y1 := cell_below y1 hS; have y2 := cell_below y2 hS; have y3 := cell_below y3 hS; have y4 := cell_below y4 hS; go_simp <;> with_reducible rfl)) | (refine anyH_free (i := 5) (v := undef) rfl (by kernel_rfl) (fun _ _ _ h => h) (Or.inr ⟨rfl, rfl⟩) hb0 ?_)); (simp only [Act.put, List.setIfInBounds_toArray, List.set_cons_zero, List.set_cons_succ])); ((first | (refine anyH_free (i := 6) (v := ?_) rfl (by kernel_rfl) (fun _ _ _ h => h) (Or.inl ⟨rfl, fun w' hS => ?_⟩) hb0 ?_; rotate_left; (have x0 := cell_below x0 hS; have x1 := cell_below x1 hS; have x2 := cell_below x2 hS; have x3 := cell_below x3 hS; have x4 := cell_below x4 hS; have y0 := cell_below y0 hS; have y1 := cell_below y1 hS; have y2 := cell_below y2 hS; have y3 := cell_below y3 hS; have y4 := cell_below y4 hS; go_simp <;> with_reducible rfl)) | (refine anyH_free (i := 6) (v := undef) rfl (by kernel_rfl) (fun _ _ _ h => h) (Or.inr ⟨rfl, rfl⟩) hb0 ?_)); (simp only [Act.put, List.setIfInBounds_toArray, List.set_cons_zero, List.set_cons_succ])); ((first | (refine anyH_free (i := 7) (v := ?_) rfl (by kernel_rfl) (fun _ _ _ h => h) (Or.inl ⟨rfl, fun w' hS => ?_⟩) hb0 ?_; rotate_left; (have x0 := cell_below x0 hS; have x1 := cell_below x1 hS; have x2 := cell_below x2 hS; have x3 := cell_below x3 hS; have x4 := cell_below x4 hS; have y0 := cell_below y0 hS; have y1 := cell_below y1 hS; have y2 := cell_below y2 hS; have y3 := cell_below y3 hS; have y4 := cell_below y4 hS; go_simp <;> with_reducible rfl)) | (refine anyH_free (i := 7) (v := undef) rfl (by kernel_rfl) (fun _ _ _ h => h) (Or.inr ⟨rfl, rfl⟩) hb0 ?_)); (simp only [Act.put, List.setIfInBounds_toArray, List.set_cons_zero, List.set_cons_succ])); ((first | (refine anyH_free (i := 8) (v := ?_) rfl (by kernel_rfl) (fun _ _ _ h => h) (Or.inl ⟨rfl, fun w' hS => ?_⟩) hb0 ?_; rotate_left; (have x0 := cell_below x0 hS; have x1 := cell_below x1 hS; have x2 := cell_below x2 hS; have x3 := cell_below x3 hS; have x4 := cell_below x4 hS; have y0 := cell_below y0 hS; have y1 := cell_below y1 hS; have y2 := cell_below y2 hS; have y3 := cell_below y3 hS; have y4 := cell_below y4 hS; go_simp <;> with_reducible rfl)) | (refine anyH_free (i := 8) (v := undef) rfl (by kernel_rfl) (fun _ _ _ h => h) (Or.inr ⟨rfl, rfl⟩) hb0 ?_)); (simp only [Act.put, List.setIfInBounds_toArray, List.set_cons_zero, List.set_cons_succ])); ((first | (refine anyH_free (i := 9) (v := ?_) rfl (by kernel_rfl) (fun _ _ _ h => h) (Or.inl ⟨rfl, fun w' hS => ?_⟩) hb0 ?_; rotate_left; (have x0 := cell_below x0 hS; have x1 := cell_below x1 hS; have x2 := cell_below x2 hS; have x3 := cell_below x3 hS; have x4 := cell_below x4 hS; have y0 := cell_below y0 hS; have y1 := cell_below y1 hS; have y2 := cell_below y2 hS; have y3 := cell_below y3 hS; have y4 := cell_below y4 hS; go_simp <;> with_reducible rfl)) | (refine anyH_free (i := 9) (v := undef) rfl (by kernel_rfl) (fun _ _ _ h => h) (Or.inr ⟨rfl, rfl⟩) hb0 ?_)); (simp only [Act.put, List.setIfInBounds_toArray, List.set_cons_zero, List.set_cons_succ]))
    refine anyH_sole (i := 10) rfl (by kernel_rfl) rfl (fun K hK => ?_)
    go_simp
    refine (rsame_any (G1.out.below hb0) (G2.out.below hb0) HE.out HX.out).mono ?_
    rintro e w1 ⟨rfl, hb1⟩
    replace hb1 := below_then hb0 hb1
    refine hK _ _ hb1 ?_
    clear hK K
    clear x0 x1 x2 x3 x4 y0 y1 y2 y3 y4
    ((first | (refine anyH_free (i := 11) (v := ?_) rfl (by kernel_rfl) (fun _ _ _ h => h) (Or.inl ⟨rfl, fun w' hS => ?_⟩) hb1 ?_; rotate_left; (have x5 := cell_below x5 hS; have x6 := cell_below x6 hS; have y5 := cell_below y5 hS; have y6 := cell_below y6 hS; go_simp <;> with_reducible rfl)) | (refine anyH_free (i := 11) (v := undef) rfl (by kernel_rfl) (fun _ _ _ h => h) (Or.inr ⟨rfl, rfl⟩) hb1 ?_)); (simp only [Act.put, List.setIfInBounds_toArray, List.set_cons_zero, List.set_cons_succ])); ((first | (refine anyH_free (i := 12) (v := ?_) rfl (by kernel_rfl) (fun _ _ _ h => h) (Or.inl ⟨rfl, fun w' hS => ?_⟩) hb1 ?_; rotate_left; (have x5 := cell_below x5 hS; have x6 := cell_below x6 hS; have y5 := cell_below y5 hS; have y6 := cell_below y6 hS; go_simp <;> with_reducible rfl)) | (refine anyH_free (i := 12) (v := undef) rfl (by kernel_rfl) (fun _ _ _ h => h) (Or.inr ⟨rfl, rfl⟩) hb1 ?_)); (simp only [Act.put, List.setIfInBounds_toArray, List.set_cons_zero, List.set_cons_succ])); ((first | (refine anyH_free (i := 13) (v := ?_) rfl (by kernel_rfl) (fun _ _ _ h => h) (Or.inl ⟨rfl, fun w' hS => ?_⟩) hb1 ?_; rotate_left; (have x5 := cell_below x5 hS; have x6 := cell_below x6 hS; have y5 := cell_below y5 hS; have y6 := cell_below y6 hS; go_simp <;> with_reducible rfl)) | (refine anyH_free (i := 13) (v := undef) rfl (by kernel_rfl) (fun _ _ _ h => h) (Or.inr ⟨rfl, rfl⟩) hb1 ?_)); (simp only [Act.put, List.setIfInBounds_toArray, List.set_cons_zero, List.set_cons_succ])); ((first | (refine anyH_free (i := 14) (v := ?_) rfl (by kernel_rfl) (fun _ _ _ h => h) (Or.inl ⟨rfl, fun w' hS => ?_⟩) hb1 ?_; rotate_left; (have x5 := cell_below x5 hS; have x6 := cell_below x6 hS; have y5 := cell_below y5 hS; have y6 := cell_below y6 hS; go_simp <;> with_reducible rfl)) | (refine anyH_free (i := 14) (v := undef) rfl (by kernel_rfl) (fun _ _ _ h => h) (Or.inr ⟨rfl, rfl⟩) hb1 ?_)); (simp only [Act.put, List.setIfInBounds_toArray, List.set_cons_zero, List.set_cons_succ])); ((first | (refine anyH_free (i := 15) (v := ?_) rfl (by kernel_rfl) (fun _ _ _ h => h) (Or.inl ⟨rfl, fun w' hS => ?_⟩) hb1 ?_; rotate_left; (have x5 := cell_below x5 hS; have x6 := cell_below x6 hS; have y5 := cell_below y5 hS; have y6 := cell_below y6 hS; go_simp <;> with_reducible rfl)) | (refine anyH_free (i := 15) (v := undef) rfl (by kernel_rfl) (fun _ _ _ h => h) (Or.inr ⟨rfl, rfl⟩) hb1 ?_)); (simp only [Act.put, List.setIfInBounds_toArray, List.set_cons_zero, List.set_cons_succ])); ((first | (refine anyH_free (i := 16) (v := ?_) rfl (by kernel_rfl) (fun _ _ _ h => h) (Or.inl ⟨rfl, fun w' hS => ?_⟩) hb1 ?_; rotate_left; (have x5 := cell_below x5 hS; have x6 := cell_below x6 hS; have y5 := cell_below y5 hS; have y6 := cell_below y6 hS; go_simp <;> with_reducible rfl)) | (refine anyH_free (i := 16) (v := undef) rfl (by kernel_rfl) (fun _ _ _ h => h) (Or.inr ⟨rfl, rfl⟩) hb1 ?_)); (simp only [Act.put, List.setIfInBounds_toArray, List.set_cons_zero, List.set_cons_succ])); ((first | (refine anyH_free (i := 17) (v := ?_) rfl (by kernel_rfl) (fun _ _ _ h => h) (Or.inl ⟨rfl, fun w' hS => ?_⟩) hb1 ?_; rotate_left; (have x5 := cell_below x5 hS; have x6 := cell_below x6 hS; have y5 := cell_below y5 hS; have y6 := cell_below y6 hS; go_simp <;> with_reducible rfl)) | (refine anyH_free (i := 17) (v := undef) rfl (by kernel_rfl) (fun _ _ _ h => h) (Or.inr ⟨rfl, rfl⟩) hb1 ?_)); (simp only [Act.put, List.setIfInBounds_toArray, List.set_cons_zero, List.set_cons_succ])); ((first | (refine anyH_free (i := 18) (v := ?_) rfl (by kernel_rfl) (fun _ _ _ h => h) (Or.inl ⟨rfl, fun w' hS => ?_⟩) hb1 ?_; rotate_left; (have x5 := cell_below x5 hS; have x6 := cell_below x6 hS; have y5 := cell_below y5 hS; have y6 := cell_below y6 hS; go_simp <;> with_reducible rfl)) | (refine anyH_free (i := 18) (v := undef) rfl (by kernel_rfl) (fun _ _ _ h => h) (Or.inr ⟨rfl, rfl⟩) hb1 ?_)); (simp only [Act.put, List.setIfInBounds_toArray, List.set_cons_zero, List.set_cons_succ])); ((first | (refine anyH_free (i := 19) (v := ?_) rfl (by kernel_rfl) (fun _ _ _ h => h) (Or.inl ⟨rfl, fun w' hS => ?_⟩) hb1 ?_; rotate_left; (have x5 := cell_below x5 hS; have x6 := cell_below x6 hS; have y5 := cell_below y5 hS; have y6 := cell_below y6 hS; go_simp <;> with_reducible rfl)) | (refine anyH_free (i := 19) (v := undef) rfl (by kernel_rfl) (fun _ _ _ h => h) (Or.inr ⟨rfl, rfl⟩) hb1 ?_)); (simp only [Act.put, List.setIfInBounds_toArray, List.set_cons_zero, List.set_cons_succ])); ((first | (refine anyH_free (i := 20) (v := ?_) rfl (by kernel_rfl) (fun _ _ _ h => h) (Or.inl ⟨rfl, fun w' hS => ?_⟩) hb1 ?_; rotate_left; (have x5 := cell_below x5 hS; have x6 := cell_below x6 hS; have y5 := cell_below y5 hS; have y6 := cell_below y6 hS; go_simp <;> with_reducible rfl)) | (refine anyH_free (i := 20) (v := undef) rfl (by kernel_rfl) (fun _ _ _ h => h) (Or.inr ⟨rfl, rfl⟩) hb1 ?_)); (simp only [Act.put, List.setIfInBounds_toArray, List.set_cons_zero, List.set_cons_succ])); ((first | (refine anyH_free (i := 21) (v := ?_) rfl (by kernel_rfl) (fun _ _ _ h => h) (Or.inl ⟨rfl, fun w' hS => ?_⟩) hb1 ?_; rotate_left; (have x5 := cell_below x5 hS; have x6 := cell_below x6 hS; have y5 := cell_below y5 hS; have y6 := cell_below y6 hS; go_simp <;> with_reducible rfl)) | (refine anyH_free (i := 21) (v := undef) rfl (by kernel_rfl) (fun _ _ _ h => h) (Or.inr ⟨rfl, rfl⟩) hb1 ?_)); (simp only [Act.put, List.setIfInBounds_toArray, List.set_cons_zero, List.set_cons_succ])); ((first | (refine anyH_free (i := 22) (v := ?_) rfl (by kernel_rfl) (fun _ _ _ h => h) (Or.inl ⟨rfl, fun w' hS => ?_⟩) hb1 ?_; rotate_left; (have x5 := cell_below x5 hS; have x6 := cell_below x6 hS; have y5 := cell_below y5 hS; have y6 := cell_below y6 hS; go_simp <;> with_reducible rfl)) | (refine anyH_free (i := 22) (v := undef) rfl (by kernel_rfl) (fun _ _ _ h => h) (Or.inr ⟨rfl, rfl⟩) hb1 ?_)); (simp only [Act.put, List.setIfInBounds_toArray, List.set_cons_zero, List.set_cons_succ])); ((first | (refine anyH_free (i := 23) (v := ?_) rfl (by kernel_rfl) (fun _ _ _ h => h) (Or.inl ⟨rfl, fun w' hS => ?_⟩) hb1 ?_; rotate_left; (have x5 := cell_below x5 hS; have x6 := cell_below x6 hS; have y5 := cell_below y5 hS; have y6 := cell_below y6 hS; go_simp <;> with_reducible rfl)) | (refine anyH_free (i := 23) (v := undef) rfl (by kernel_rfl) (fun _ _ _ h => h) (Or.inr ⟨rfl, rfl⟩) hb1 ?_)); (simp only [Act.put, List.setIfInBounds_toArray, List.set_cons_zero, List.set_cons_succ])); ((first | (refine anyH_free (i := 24) (v := ?_) rfl (by kernel_rfl) (fun _ _ _ h => h) (Or.inl ⟨rfl, fun w' hS => ?_⟩) hb1 ?_; rotate_left; (have x5 := cell_below x5 hS; have x6 := cell_below x6 hS; have y5 := cell_below y5 hS; have y6 := cell_below y6 hS; go_simp <;> with_reducible rfl)) | (refine anyH_free (i := 24) (v := undef) rfl (by kernel_rfl) (fun _ _ _ h => h) (Or.inr ⟨rfl, rfl⟩) hb1 ?_)); (simp only [Act.put, List.setIfInBounds_toArray, List.set_cons_zero, List.set_cons_succ])); ((first | (refine anyH_free (i := 25) (v := ?_) rfl (by kernel_rfl) (fun _ _ _ h => h) (Or.inl ⟨rfl, fun w' hS => ?_⟩) hb1 ?_; rotate_left; (have x5 := cell_below x5 hS; have x6 := cell_below x6 hS; have y5 := cell_below y5 hS; have y6 := cell_below y6 hS; go_simp <;> with_reducible rfl)) | (refine anyH_free (i := 25) (v := undef) rfl (by kernel_rfl) (fun _ _ _ h => h) (Or.inr ⟨rfl, rfl⟩) hb1 ?_)); (simp only [Act.put, List.setIfInBounds_toArray, List.set_cons_zero, List.set_cons_succ])); ((first | (refine anyH_free (i := 26) (v := ?_) rfl (by kernel_rfl) (fun _ _ _ h => h) (Or.inl ⟨rfl, fun w' hS => ?_⟩) hb1 ?_; rotate_left; (have x5 := cell_below x5 hS; have x6 := cell_below x6 hS; have y5 := cell_below y5 hS; have y6 := cell_below y6 hS; go_simp <;> with_reducible rfl)) | (refine anyH_free (i := 26) (v := undef) rfl (by kernel_rfl) (fun _ _ _ h => h) (Or.inr ⟨rfl, rfl⟩) hb1 ?_)); (simp only [Act.put, List.setIfInBounds_toArray, List.set_cons_zero, List.set_cons_succ])); ((first | (refine anyH_free (i := 27) (v := ?_) rfl (by kernel_rfl) (fun _ _ _ h => h) (Or.inl ⟨rfl, fun w' hS => ?_⟩) hb1 ?_; rotate_left; (have x5 := cell_below x5 hS; have x6 := cell_below x6 hS; have y5 := cell_below y5 hS; have y6 := cell_below y6 hS; go_simp <;> with_reducible rfl)) | (refine anyH_free (i := 27) (v := undef) rfl (by kernel_rfl) (fun _ _ _ h => h) (Or.inr ⟨rfl, rfl⟩) hb1 ?_)); (simp only [Act.put, List.setIfInBounds_toArray, List.set_cons_zero, List.set_cons_succ])); ((first | (refine anyH_free (i := 28) (v := ?_) rfl (by kernel_rfl) (fun _ _ _ h => h) (Or.inl ⟨rfl, fun w' hS => ?_⟩) hb1 ?_; rotate_left; (have x5 := cell_below x5 hS; have x6 := cell_below x6 hS; have y5 := cell_below y5 hS; have y6 := cell_below y6 hS; go_simp <;> with_reducible rfl)) | (refine anyH_free (i := 28) (v := undef) rfl (by kernel_rfl) (fun _ _ _ h => h) (Or.inr ⟨rfl, rfl⟩) hb1 ?_)); (simp only [Act.put, List.setIfInBounds_toArray, List.set_cons_zero, List.set_cons_succ])); ((first | (refine anyH_free (i := 29) (v := ?_) rfl (by kernel_rfl) (fun _ _ _ h => h) (Or.inl ⟨rfl, fun w' hS => ?_⟩) hb1 ?_; rotate_left; (have x5 := cell_below x5 hS; have x6 := cell_below x6 hS; have y5 := cell_below y5 hS; have y6 := cell_below y6 hS; go_simp <;> with_reducible rfl)) | (refine anyH_free (i := 29) (v := undef) rfl (by kernel_rfl) (fun _ _ _ h => h) (Or.inr ⟨rfl, rfl⟩) hb1 ?_)); (simp only [Act.put, List.setIfInBounds_toArray, List.set_cons_zero, List.set_cons_succ])); ((first | (refine anyH_free (i := 30) (v := ?_) rfl (by kernel_rfl) (fun _ _ _ h => h) (Or.inl ⟨rfl, fun w' hS => ?_⟩) hb1 ?_; rotate_left; (have x5 := cell_below x5 hS; have x6 := cell_below x6 hS; have y5 := cell_below y5 hS; have y6 := cell_below y6 hS; go_simp <;> with_reducible rfl)) | (refine anyH_free (i := 30) (v := undef) rfl (by kernel_rfl) (fun _ _ _ h => h) (Or.inr ⟨rfl, rfl⟩) hb1 ?_)); (simp only [Act.put, List.setIfInBounds_toArray, List.set_cons_zero, List.set_cons_succ])); ((first | (refine anyH_free (i := 31) (v := ?_) rfl (by kernel_rfl) (fun _ _ _ h => h) (Or.inl ⟨rfl, fun w' hS => ?_⟩) hb1 ?_; rotate_left; (have x5 := cell_below x5 hS; have x6 := cell_below x6 hS; have y5 := cell_below y5 hS; have y6 := cell_below y6 hS; go_simp <;> with_reducible rfl)) | (refine anyH_free (i := 31) (v := undef) rfl (by kernel_rfl) (fun _ _ _ h => h) (Or.inr ⟨rfl, rfl⟩) hb1 ?_)); (simp only [Act.put, List.setIfInBounds_toArray, List.set_cons_zero, List.set_cons_succ])); ((first | (refine anyH_free (i := 32) (v := ?_) rfl (by kernel_rfl) (fun _ _ _ h => h) (Or.inl ⟨rfl, fun w' hS => ?_⟩) hb1 ?_; rotate_left; (have x5 := cell_below x5 hS; have x6 := cell_below x6 hS; have y5 := cell_below y5 hS; have y6 := cell_below y6 hS; go_simp <;> with_reducible rfl)) | (refine anyH_free (i := 32) (v := undef) rfl (by kernel_rfl) (fun _ _ _ h => h) (Or.inr ⟨rfl, rfl⟩) hb1 ?_)); (simp only [Act.put, List.setIfInBounds_toArray, List.set_cons_zero, List.set_cons_succ])); ((first | (refine anyH_free (i := 33) (v := ?_) rfl (by kernel_rfl) (fun _ _ _ h => h) (Or.inl ⟨rfl, fun w' hS => ?_⟩) hb1 ?_; rotate_left; (have x5 := cell_below x5 hS; have x6 := cell_below x6 hS; have y5 := cell_below y5 hS; have y6 := cell_below y6 hS; go_simp <;> with_reducible rfl)) | (refine anyH_free (i := 33) (v := undef) rfl (by kernel_rfl) (fun _ _ _ h => h) (Or.inr ⟨rfl, rfl⟩) hb1 ?_)); (simp only [Act.put, List.setIfInBounds_toArray, List.set_cons_zero, List.set_cons_succ])); ((first | (refine anyH_free (i := 34) (v := ?_) rfl (by kernel_rfl) (fun _ _ _ h => h) (Or.inl ⟨rfl, fun w' hS => ?_⟩) hb1 ?_; rotate_left; (have x5 := cell_below x5 hS; have x6 := cell_below x6 hS; have y5 := cell_below y5 hS; have y6 := cell_below y6 hS; go_simp <;> with_reducible rfl)) | (refine anyH_free (i := 34) (v := undef) rfl (by kernel_rfl) (fun _ _ _ h => h) (Or.inr ⟨rfl, rfl⟩) hb1 ?_)); (simp only [Act.put, List.setIfInBounds_toArray, List.set_cons_zero, List.set_cons_succ])); ((first | (refine anyH_free (i := 35) (v := ?_) rfl (by kernel_rfl) (fun _ _ _ h => h) (Or.inl ⟨rfl, fun w' hS => ?_⟩) hb1 ?_; rotate_left; (have x5 := cell_below x5 hS; have x6 := cell_below x6 hS; have y5 := cell_below y5 hS; have y6 := cell_below y6 hS; go_simp <;> with_reducible rfl)) | (refine anyH_free (i := 35) (v := undef) rfl (by kernel_rfl) (fun _ _ _ h => h) (Or.inr ⟨rfl, rfl⟩) hb1 ?_)); (simp only [Act.put, List.setIfInBounds_toArray, List.set_cons_zero, List.set_cons_succ])); ((first | (refine anyH_free (i := 36) (v := ?_) rfl (by kernel_rfl) (fun _ _ _ h => h) (Or.inl ⟨rfl, fun w' hS => ?_⟩) hb1 ?_; rotate_left; (have x5 := cell_below x5 hS; have x6 := cell_below x6 hS; have y5 := cell_below y5 hS; have y6 := cell_below y6 hS; go_simp <;> with_reducible rfl)) | (refine anyH_free (i := 36) (v := undef) rfl (by kernel_rfl) (fun _ _ _ h => h) (Or.inr ⟨rfl, rfl⟩) hb1 ?_)); (simp only [Act.put, List.setIfInBounds_toArray, List.set_cons_zero, List.set_cons_succ])); ((first | (refine anyH_free (i := 37) (v := ?_) rfl (by kernel_rfl) (fun _ _ _ h => h) (Or.inl ⟨rfl, fun w' hS => ?_⟩) hb1 ?_; rotate_left; (have x5 := cell_below x5 hS; have x6 := cell_below x6 hS; have y5 := cell_below y5 hS; have y6 := cell_below y6 hS; go_simp <;> with_reducible rfl)) | (refine anyH_free (i := 37) (v := undef) rfl (by kernel_rfl) (fun _ _ _ h => h) (Or.inr ⟨rfl, rfl⟩) hb1 ?_)); (simp only [Act.put, List.setIfInBounds_toArray, List.set_cons_zero, List.set_cons_succ]))
    refine anyH_done (by kernel_rfl) ?_
    clear x5 x6 y5 y6
    go_wp2_with fail
    exact ⟨⟨k + 1, by simp, by omega, below_then hB hb1⟩, by simp [intOf]; omega⟩
  · obtain rfl : k = xs.length := by omega
    go_wp2_with fail
    go_ret
    exact ⟨rfl, hB⟩
end Go.Proofs.Ytfaafndaelmbfaa

/- QueueOrder's walk -/
import Derived.Test.YthligipgmicgfaaQOrd
namespace Go.Proofs.Ythligipgmicgfaa
open Go.RowKit
attribute [local go_sem] Oper.semAt_some

/-- an act's labels -/
def ActOk (W : World) (x : Bool × (Value × It)) : Prop := Sl (fun _ => True) W x.2.1 2 encL x.2.2.ls
theorem act_lb {W : World} {xs : List (Bool × (Value × It))} (h : ∀ x ∈ xs, LabO W x.2) (hg : labs (xs.map Prod.snd) ≤ 1000) {x : Bool × (Value × It)} (hx : x ∈ xs) : Lb (fun _ => True) W x.2.1 x.2.2.ls :=
  ⟨(h x hx).1, by have := labs_mem (List.mem_map_of_mem (f := Prod.snd) hx); omega⟩
set_option maxRecDepth 100000 in
set_option maxHeartbeats 4000000 in
theorem order_big {v : Value} {w : World} (hG : Calls Try.prog 17 #[v] w (Is (.bool true) w)) : Calls Try.prog 6 #[v] w (Tells (.bool true) w) := by
  have HG := Lib.hid hG
  clear hG
  go_enter Try.func6, Try.ntmps6
  go_wp2_with fail
  refine HG.out.mono ?_
  rintro e w1 ⟨rfl, rfl⟩
  go_wp2_with fail
  refine (awake20_any _).mono ?_
  rintro e w1 ⟨rfl, hb⟩
  go_wp2_with fail
  go_ret
  exact ⟨rfl, hb⟩
theorem mx_swap {p : Nat} {vi vo : Value} {k : Nat} (e : MX p vo vi k) : MX p vi vo k := by
  rcases e with e | e | e
  · exact .inl e
  · exact .inr (.inr e)
  · exact .inr (.inl e)
set_option maxRecDepth 100000 in
set_option maxHeartbeats 8000000 in
theorem order_walk {v : Value} {xs : List (Bool × (Value × It))} {w : World} (h : Sl (fun _ => True) w v 5 encA xs) (hl : ∀ x ∈ xs, LabO w x.2) (hG : Calls Try.prog 17 #[v] w (Is (.bool false) w)) (hn : xs.length ≤ 200) (hg : labs (xs.map Prod.snd) ≤ 1000) :
    Calls Try.prog 6 #[v] w (Tells (.bool true) w) := by
  obtain ⟨p0, c0, rfl, _, _⟩ := h.len
  obtain ⟨i0, hi, hi0, hi1, hi2⟩ := info_parts info_refitem
  have HI := Lib.hid hi
  have HI0 := Lib.hid hi0
  have HI1 := Lib.hid hi1
  have HI2 := Lib.hid hi2
  have HS := Lib.hid h
  have HL := Lib.hid (fun x hx => act_lb hl hg (x := x) hx)
  have HG := Lib.hid hG
  clear hi hi0 hi1 hi2 h hl hG hg
  go_enter Try.func6, Try.ntmps6
  go_wp2_with fail
  refine HG.out.mono ?_
  rintro e w1 ⟨rfl, rfl⟩
  go_wp2_with fail
  refine (new_any w).mono ?_
  rintro e w1 ⟨rfl, hb, hq⟩
  have O1 := Lib.hid (OS.start (w := w) hq hb (Nat.le_refl _))
  clear hb hq
  obtain ⟨p, hp⟩ : ∃ p, p = w.heap.size := ⟨_, rfl⟩
  rw [← hp] at O1 ⊢
  clear hp HG
  go_wp2_with fail
  go_loopw [4, 5, 6] (fun vi vo i wr => ∃ (k : Nat) (q ins outs : List It), i = .int .i64 k ∧ k ≤ xs.length ∧ ins = outs ++ q ∧ q.length ≤ 8 ∧ ins.length ≤ k ∧ OS w p vi vo q ins outs wr) (fun _ _ i _ => xs.length - (intOf i).toNat)
  · exact ⟨0, [], [], [], rfl, by omega, rfl, by simp, by simp, O1.out⟩
  obtain ⟨k, q, ins, outs, rfl, hk, hio, hq8, hik, hO⟩ := hrel
  have HO := Lib.hid hO
  have HIO := Lib.hid hio
  clear hio hO O1
  by_cases hlt : k < xs.length
  · obtain ⟨x, hx⟩ : ∃ x, xs[k]? = some x := ⟨_, List.getElem?_eq_getElem hlt⟩
    have hxm := List.mem_of_getElem? hx
    obtain ⟨a, rfl, _, _, hM⟩ := (HS.out.below HO.out.b).at hx
    have hkk : (k : Int) < (xs.length : Int) := by omega
    have x0 : wr.cell? (a.add (k * 5)) = some (.bool x.1) := hM k x hx 0 _ rfl
    have x1 : wr.cell? ⟨(a.add (k * 5)).block, (a.add (k * 5)).off + 1, none⟩ = some x.2.1 := hM k x hx 1 _ rfl
    have x2 : wr.cell? ⟨(a.add (k * 5)).block, (a.add (k * 5)).off + 2, none⟩ = some (.int .i64 x.2.2.at_) := hM k x hx 2 _ rfl
    have x3 : wr.cell? ⟨(a.add (k * 5)).block, (a.add (k * 5)).off + 3, none⟩ = some (.int .i64 x.2.2.vl) := hM k x hx 3 _ rfl
    have x4 : wr.cell? ⟨(a.add (k * 5)).block, (a.add (k * 5)).off + 4, none⟩ = some (.int .i64 x.2.2.cost) := hM k x hx 4 _ rfl
    have HLX := Lib.hid ((HL.out x hxm).below HO.out.b)
    obtain ⟨⟨b, lv, it⟩, rfl⟩ : ∃ y, x = y := ⟨_, rfl⟩
    simp only at x0 x1 x2 x3 x4 HLX
    obtain ⟨p1, c1, rfl⟩ := HLX.out.slice
    have HX := Lib.hid hx
    have HXM := Lib.hid hxm
    clear hM hx hxm
    cases b
    · by_cases hok : mayCost it = true ∧ q.length < 8
      · go_wp2_with fail
        refine (push_yes' HO.out.q HLX.out HO.out.mx hok.1 hok.2).mono ?_
        rintro e w2 ⟨rfl, hq2, hk2⟩
        have HO2 := Lib.hid (HO.out.setq hq2 hk2)
        clear hq2 hk2 x0 x1 x2 x3 x4 HLX
        obtain ⟨a2, ha2, _, _, hM⟩ := (HS.out.below HO2.out.b).at HX.out
        obtain rfl : a = a2 := by simpa using ha2
        have x1 : w2.cell? ⟨(a.add (k * 5)).block, (a.add (k * 5)).off + 1, none⟩ = some (.slice p1 it.ls.length c1) := hM k _ HX.out 1 _ rfl
        have x2 : w2.cell? ⟨(a.add (k * 5)).block, (a.add (k * 5)).off + 2, none⟩ = some (.int .i64 it.at_) := hM k _ HX.out 2 _ rfl
        have x3 : w2.cell? ⟨(a.add (k * 5)).block, (a.add (k * 5)).off + 3, none⟩ = some (.int .i64 it.vl) := hM k _ HX.out 3 _ rfl
        have x4 : w2.cell? ⟨(a.add (k * 5)).block, (a.add (k * 5)).off + 4, none⟩ = some (.int .i64 it.cost) := hM k _ HX.out 4 _ rfl
        have HLX := Lib.hid ((HL.out _ HXM.out).below HO2.out.b)
        clear hM ha2
        go_wp2_with fail
        clear x1 x2 x3 x4
        refine (Twin_any HLX.out).mono ?_
        rintro e w3 ⟨l3, rfl, hl3, hb3⟩
        obtain ⟨p3, c3, rfl⟩ := hl3.lb.slice
        have hba := (Below.refl _ w3).alloc (Nat.le_refl _) (.cells #[.slice p3 it.ls.length c3, .int .i64 it.at_, .int .i64 it.vl, .int .i64 it.cost] 45)
        have HO4 := Lib.hid ((HO2.out.below hb3).below hba)
        have HL4 := Lib.hid ((lw_new hl3 HO2.out.mx).below hba)
        obtain ⟨ro, hro⟩ := HO4.out.i
        have hrol := hro.len
        have hrl : ro.length ≤ 200 := by omega
        have HRO := Lib.hid hro
        have hbs := HO4.out.b.size
        clear hl3 hb3 hro hrol hba
        go_wp2_with (at_builtin; refine wpList_append_sl encI_len rfl (.tmp 46) (.tmp 53) 41 rfl w.heap.size 45 i0 _ 48 Try.underlying41 HI.out HI0.out HI1.out HI2.out rfl (by decide) (xs := ro) (ys := [(.slice p3 it.ls.length c3, it)]) (by rfl) (by rfl) HRO.out.own (Sl.one (S := fun _ => True) encI_len (Box.new _ _ _) rfl trivial) one_row (by simp only [List.length_cons, List.length_nil]; unfold maxLen; omega) (by simp only [List.length_cons, List.length_nil]; omega) hbs ?_; intro v5 w5 hown hk5 hat)
        have HO5 := Lib.hid ((HO4.out.swap.addOut (HRO.out.mono (fun k _ s e => s (mx_swap e))) (HL4.out.mono (fun k _ s e => s (mx_swap e))) hown hk5 hat).swap)
        clear hown hk5 hat HO4 HL4 HRO
        exact ⟨⟨k + 1, q ++ [it], ins ++ [it], outs, by simp, by omega, by rw [HIO.out]; simp, by have := hok.2; simp; omega, by simp; omega, HO5.out⟩, by simp [intOf]; omega⟩
      · go_wp2_with fail
        refine (push_no' HO.out.q HLX.out HO.out.mx hok).mono ?_
        rintro e w2 ⟨r, hr, rfl, hq2, hk2⟩
        have HO2 := Lib.hid (HO.out.setq hq2 hk2)
        clear hq2 hk2 x0 x1 x2 x3 x4
        go_wp2_with fail
        exact ⟨⟨k + 1, q, ins, outs, by simp, by omega, HIO.out, hq8, by omega, HO2.out⟩, by simp [intOf]; omega⟩
    · cases q with
      | nil =>
        go_wp2_with fail
        refine (pop_nil HO.out.q).mono ?_
        rintro e w2 ⟨rfl, hb⟩
        have HO2 := Lib.hid (HO.out.below hb)
        clear hb x0 x1 x2 x3 x4
        go_wp2_with fail
        exact ⟨⟨k + 1, [], ins, outs, by simp, by omega, HIO.out, by simp, by omega, HO2.out.below ((Below.refl _ _).alloc (Nat.le_refl _) _)⟩, by simp [intOf]; omega⟩
      | cons y q =>
        go_wp2_with fail
        refine (pop_some HO.out.q).mono ?_
        rintro e w2 ⟨l2, rfl, hl2, hq2, hk2⟩
        obtain ⟨p2, c2, rfl⟩ := hl2.lb.slice
        have HO2 := Lib.hid (HO.out.setq hq2 hk2)
        have HL2 := Lib.hid hl2
        clear hl2 hq2 hk2 x0 x1 x2 x3 x4
        go_wp2_with fail
        have HOA := Lib.hid (HO2.out.below ((Below.refl _ w2).alloc (Nat.le_refl _) (.cells #[.slice p2 y.ls.length c2, .int .i64 y.at_, .int .i64 y.vl, .int .i64 y.cost] 32)))
        have HLA := Lib.hid (HL2.out.lb.below ((Below.refl _ w2).alloc (Nat.le_refl _) (.cells #[.slice p2 y.ls.length c2, .int .i64 y.at_, .int .i64 y.vl, .int .i64 y.cost] 32)))
        have hlen : ins.length = outs.length + (q.length + 1) := by rw [HIO.out, List.length_append, List.length_cons]
        refine (Twin_any HLA.out).mono ?_
        rintro e w3 ⟨l3, rfl, hl3, hb3⟩
        obtain ⟨p3, c3, rfl⟩ := hl3.lb.slice
        have hba := (Below.refl _ w3).alloc (Nat.le_refl _) (.cells #[.slice p3 y.ls.length c3, .int .i64 y.at_, .int .i64 y.vl, .int .i64 y.cost] 45)
        have HO4 := Lib.hid ((HOA.out.below hb3).below hba)
        have HL4 := Lib.hid ((lw_new hl3 HOA.out.mx).below hba)
        obtain ⟨ro, hro⟩ := HO4.out.o
        have hrol := hro.len
        have hrl : ro.length ≤ 200 := by omega
        have HRO := Lib.hid hro
        have hbs := HO4.out.b.size
        clear hl3 hb3 hro hrol hba
        go_wp2_with (at_builtin; refine wpList_append_sl encI_len rfl (.tmp 33) (.tmp 36) 41 rfl w.heap.size 45 i0 _ 48 Try.underlying41 HI.out HI0.out HI1.out HI2.out rfl (by decide) (xs := ro) (ys := [(.slice p3 y.ls.length c3, y)]) (by rfl) (by rfl) HRO.out.own (Sl.one (S := fun _ => True) encI_len (Box.new _ _ _) rfl trivial) one_row (by simp only [List.length_cons, List.length_nil]; unfold maxLen; omega) (by simp only [List.length_cons, List.length_nil]; omega) hbs ?_; intro v5 w5 hown hk5 hat)
        have HO5 := Lib.hid ((HO4.out.addOut HRO.out HL4.out hown hk5 hat))
        clear hown hk5 hat HO4 HL4 HRO
        exact ⟨⟨k + 1, q, ins, outs ++ [y], by simp, by omega, by rw [HIO.out]; simp, by simp at hq8; omega, by omega, HO5.out⟩, by simp [intOf]; omega⟩
  · obtain rfl : k = xs.length := by omega
    go_wp2_with fail
    go_loopw [5, 9] (fun vo i w2 => ∃ (j : Nat) (q outs : List It), i = .int .i64 j ∧ j ≤ 8 ∧ ins = outs ++ q ∧ q.length ≤ 8 - j ∧ OS w p u4 vo q ins outs w2) (fun _ i _ => 8 - (intOf i).toNat)
    · exact ⟨0, q, outs, rfl, by omega, HIO.out, hq8, HO.out⟩
    clear HO HIO hq8
    obtain ⟨j, q, outs, rfl, hj, hio, hqj, hO⟩ := hrel
    have HO := Lib.hid hO
    have HIO := Lib.hid hio
    clear hO hio
    by_cases hj8 : j < 8
    · have hjj : (j : Int) < 8 := by omega
      cases q with
      | nil =>
        go_wp2_with fail
        refine (pop_nil HO.out.q).mono ?_
        rintro e w2 ⟨rfl, hb⟩
        have HO2 := Lib.hid (HO.out.below hb)
        clear hb
        go_wp2_with fail
        exact ⟨⟨j + 1, [], outs, by simp, by omega, HIO.out, by simp, HO2.out.below ((Below.refl _ _).alloc (Nat.le_refl _) _)⟩, by simp [intOf]; omega⟩
      | cons y q =>
        go_wp2_with fail
        refine (pop_some HO.out.q).mono ?_
        rintro e w2 ⟨l2, rfl, hl2, hq2, hk2⟩
        obtain ⟨p2, c2, rfl⟩ := hl2.lb.slice
        have HO2 := Lib.hid (HO.out.setq hq2 hk2)
        have HL2 := Lib.hid hl2
        clear hl2 hq2 hk2
        go_wp2_with fail
        have HOA := Lib.hid (HO2.out.below ((Below.refl _ w2).alloc (Nat.le_refl _) (.cells #[.slice p2 y.ls.length c2, .int .i64 y.at_, .int .i64 y.vl, .int .i64 y.cost] 32)))
        have HLA := Lib.hid (HL2.out.lb.below ((Below.refl _ w2).alloc (Nat.le_refl _) (.cells #[.slice p2 y.ls.length c2, .int .i64 y.at_, .int .i64 y.vl, .int .i64 y.cost] 32)))
        have hlen : ins.length = outs.length + (q.length + 1) := by rw [HIO.out, List.length_append, List.length_cons]
        refine (Twin_any HLA.out).mono ?_
        rintro e w3 ⟨l3, rfl, hl3, hb3⟩
        obtain ⟨p3, c3, rfl⟩ := hl3.lb.slice
        have hba := (Below.refl _ w3).alloc (Nat.le_refl _) (.cells #[.slice p3 y.ls.length c3, .int .i64 y.at_, .int .i64 y.vl, .int .i64 y.cost] 45)
        have HO4 := Lib.hid ((HOA.out.below hb3).below hba)
        have HL4 := Lib.hid ((lw_new hl3 HOA.out.mx).below hba)
        obtain ⟨ro, hro⟩ := HO4.out.o
        have hrol := hro.len
        have hrl : ro.length ≤ 200 := by omega
        have HRO := Lib.hid hro
        have hbs := HO4.out.b.size
        clear hl3 hb3 hro hrol hba
        go_wp2_with (at_builtin; refine wpList_append_sl encI_len rfl (.tmp 65) (.tmp 68) 41 rfl w.heap.size 45 i0 _ 48 Try.underlying41 HI.out HI0.out HI1.out HI2.out rfl (by decide) (xs := ro) (ys := [(.slice p3 y.ls.length c3, y)]) (by rfl) (by rfl) HRO.out.own (Sl.one (S := fun _ => True) encI_len (Box.new _ _ _) rfl trivial) one_row (by simp only [List.length_cons, List.length_nil]; unfold maxLen; omega) (by simp only [List.length_cons, List.length_nil]; omega) hbs ?_; intro v5 w5 hown hk5 hat)
        have HO5 := Lib.hid ((HO4.out.addOut HRO.out HL4.out hown hk5 hat))
        clear hown hk5 hat HO4 HL4 HRO
        exact ⟨⟨j + 1, q, outs ++ [y], by simp, by omega, by rw [HIO.out]; simp, by simp at hqj; omega, HO5.out⟩, by simp [intOf]; omega⟩
    · obtain rfl : j = 8 := by omega
      have hq0 : q.length = 0 := by omega
      obtain rfl : q = [] := List.eq_nil_of_length_eq_zero hq0
      obtain rfl : ins = outs := by have := HIO.out; simpa using this
      go_wp2_with fail
      refine (len_any HO.out.q).mono ?_
      rintro e w2 ⟨rfl, rfl⟩
      obtain ⟨ri, hri⟩ := HO.out.i
      obtain ⟨ro, hro⟩ := HO.out.o
      have HA := Lib.hid ((hri.mono (T := fun _ => True) (fun _ _ _ => trivial)).its (fun _ _ => trivial))
      have HB := Lib.hid ((hro.mono (T := fun _ => True) (fun _ _ _ => trivial)).its (fun _ _ => trivial))
      clear hri hro
      go_wp2_with fail
      refine (sameAll_any HA.out HB.out (by omega)).mono ?_
      rintro e w3 ⟨rfl, hb⟩
      have HO3 := Lib.hid (HO.out.below hb)
      clear hb
      go_wp2_with fail
      refine (awake20_any _).mono ?_
      rintro e w4 ⟨rfl, hb⟩
      have HO4 := Lib.hid (HO3.out.below hb)
      clear hb
      go_wp2_with fail
      go_ret
      exact ⟨rfl, HO4.out.b⟩
theorem order_any {v : Value} {xs : List (Bool × (Value × It))} {w : World} (h : Sl (fun _ => True) w v 5 encA xs) (hl : ∀ x ∈ xs, LabO w x.2) : Calls Try.prog 6 #[v] w (Tells (.bool true) w) := by
  have hG := great_any h (fun x hx => by
    obtain ⟨p, c, e, _⟩ := (hl x hx).1.len
    exact ⟨p, c, e⟩)
  cases hb : greatB (xs.map Prod.snd) with
  | true => rw [hb] at hG; exact order_big hG
  | false =>
    rw [hb] at hG
    obtain ⟨h1, h2⟩ := greatB_no hb
    rw [List.length_map] at h1
    exact order_walk h hl hG h1 h2
end Go.Proofs.Ythligipgmicgfaa

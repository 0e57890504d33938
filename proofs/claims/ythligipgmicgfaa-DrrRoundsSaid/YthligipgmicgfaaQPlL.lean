/- QueuePlays's walk -/
import Derived.Test.YthligipgmicgfaaQOrdL
import Derived.Test.YthligipgmicgfaaQNilL
import Derived.Deep.DeepCutAuto
namespace Go.Proofs.Ythligipgmicgfaa
open Go.RowKit
attribute [local go_sem] Oper.semAt_some

/-- the queue and the document's list hold the same -/
structure PS (w : World) (p : Nat) (vm : Value) (q : List It) (W : World) : Prop where
  qa : QAt (fun k => k ≠ p) p W q
  m : Its (fun k => k ≠ p) W vm q
  b : Below w.heap.size w W
  lt : w.heap.size ≤ p
  n : q.length ≤ 8
  c : ∀ x ∈ q, 1 ≤ x.cost ∧ x.cost ≤ 256
theorem PS.below {w W W' : World} {p : Nat} {vm : Value} {q : List It} (h : PS w p vm q W) (hb : Below W.heap.size W W') : PS w p vm q W' :=
  ⟨h.qa.below hb, h.m.below hb, below_then h.b hb, h.lt, h.n, h.c⟩
theorem after_in {wr X w2 : World} {cs : Array Value} {t : TypeId} (hb2 : Below wr.heap.size wr X) (b8 : Box X wr.heap.size cs t) (hk2 : Kept (fun k => (Value.slice (some ⟨wr.heap.size + 1, 0, none⟩) 0 0).ownBlock = some k) X w2) : Below wr.heap.size wr w2 ∧ Box w2 wr.heap.size cs t :=
  ⟨hb2.trans (hk2.below (fun b e => by simp only [Value.ownBlock, Option.some.injEq] at e; omega) hb2.size), b8.kept hk2 (by simp [Value.ownBlock])⟩
/-- the loop that spoils what All told -/
structure LP (wc : World) (va : Value) (q : List It) (rs : List (Value × It)) (W : World) : Prop where
  b : Below wc.heap.size wc W
  map : rs.map Prod.snd = q
  row : Sl (fun k => va.ownBlock = some k) W va 4 encI rs
  wr : ∀ r ∈ rs, Wr W r.1 r.2.ls.length
  own : ∀ r ∈ rs, 0 < r.2.ls.length → ∀ k, r.1.ownBlock = some k → wc.heap.size ≤ k ∧ va.ownBlock ≠ some k
  sz : ∀ r ∈ rs, r.2.ls.length ≤ 4611686018427387904
  sh : ∀ r ∈ rs, ∃ p c, r.1 = .slice p r.2.ls.length c
  hd : ∀ a n c, va = .slice (some a) n c → ∃ g, a = ⟨g, 0, none⟩
theorem LP.spoil {wc : World} {va : Value} {q : List It} {rs : List (Value × It)} {W W' : World} (h : LP wc va q rs W) {F : Nat → Prop} (hk : Kept F W W') (hF : ∀ k, F k → wc.heap.size ≤ k ∧ va.ownBlock ≠ some k) (hs : Shapes W W') : LP wc va q rs W' :=
  ⟨h.b.trans (hk.below (fun k e => (hF k e).1) h.b.size), h.map, h.row.kept hk (fun k _ s e => (hF k e).2 s), fun r hr => (h.wr r hr).shapes hs, h.own, h.sz, h.sh, h.hd⟩
theorem lp_start {wc w3 W : World} {e : TypeId} {va : Value} {q : List It} {rs : List (Value × It)} (hb : Below wc.heap.size wc W) (hs : wc.heap.size ≤ w3.heap.size) (hR : Rws (fun k => w3.heap.size ≤ k ∧ va.ownBlock ≠ some k) W w3.heap.size e va q rs) : LP wc va q rs W :=
  ⟨hb, hR.map, Sl.owned encI_len hR.own, fun r hr => (hR.lab r hr).wr, fun r hr hp k e => ⟨Nat.le_trans hs ((hR.lab r hr).lb.own hp e).2.1, ((hR.lab r hr).lb.own hp e).2.2⟩, fun r hr => by have := (hR.lab r hr).lb.sz; omega, fun r hr => (hR.lab r hr).lb.slice, fun a n c e => by
    rcases hR.own.2 with ⟨h, _⟩ | ⟨g, cap, cur, h, _⟩
    · rw [h] at e; cases e
    · rw [h] at e; simp only [Value.slice.injEq, Option.some.injEq] at e; exact ⟨g, e.1.symm⟩⟩
theorem in_lw {wr w2 : World} {ls : List Lbl} {x : It} {v0 : Value} {p2 : Option Addr} {c2 : Nat} {t e : TypeId} (hb : Below wr.heap.size wr w2) (b8 : Box w2 wr.heap.size #[v0, .int .i64 x.at_, .int .i64 x.vl, .int .i64 x.cost] t)
    (ho : w2.ownsRow (wr.heap.size + 1) e 2 (.slice p2 ([] ++ ls).length c2) ([] ++ ls).length (([] ++ ls).flatMap encL)) (hsz : ls.length * 32 ≤ 140737488351232) :
    Below wr.heap.size wr (w2.setCell ⟨wr.heap.size, 0, none⟩ (.slice p2 ls.length c2)) ∧ Box (w2.setCell ⟨wr.heap.size, 0, none⟩ (.slice p2 ls.length c2)) wr.heap.size #[.slice p2 ls.length c2, .int .i64 x.at_, .int .i64 x.vl, .int .i64 x.cost] t ∧ Lw (fun k => (Value.slice p2 ls.length c2).ownBlock = some k) (w2.setCell ⟨wr.heap.size, 0, none⟩ (.slice p2 ls.length c2)) (.slice p2 ls.length c2) ls ∧ ∀ k, (Value.slice p2 ls.length c2).ownBlock = some k → wr.heap.size < k ∧ k < (w2.setCell ⟨wr.heap.size, 0, none⟩ (.slice p2 ls.length c2)).heap.size := by
  rw [List.nil_append] at ho
  have hk : Kept (fun k => k = wr.heap.size) w2 (w2.setCell ⟨wr.heap.size, 0, none⟩ (.slice p2 ls.length c2)) := (Kept.refl _ w2).setCell _ _ (by simp)
  have ho2 := owns_keep ho (fun k e => hk.block k (ho.lt k e).2 (fun e' => by have := (ho.lt k e).1; omega))
  exact ⟨hb.setCell (by simp) _, b8.set _, ⟨⟨Sl.owned encL_len ho2, hsz⟩, fun hp => owns_box ho2 hp⟩, fun k e => ⟨(ho2.lt k e).1, (ho2.lt k e).2⟩⟩
theorem qat_mono {S T : Nat → Prop} {p : Nat} {W : World} {xs : List It} (h : QAt S p W xs) (hS : ∀ k, k < W.heap.size → S k → T k) (hp : ¬ T p) : QAt T p W xs := by
  obtain ⟨v, h1, h2, _⟩ := h
  exact ⟨v, h1, h2.mono hS, hp⟩
theorem push_ps {w W W' : World} {p : Nat} {vm vm' vin : Value} {q : List It} {it : It} (hq : QAt (fun k => k ≠ p ∧ vin.ownBlock ≠ some k) p W' (pushL q it)) (hm : Its (fun k => k ≠ p ∧ vin.ownBlock ≠ some k) W' vm' (pushL q it)) (hb : Below w.heap.size w W') (h : PS w p vm q W) : PS w p vm' (pushL q it) W' := by
  refine ⟨qat_mono hq (fun k _ s => s.1) (fun h => h rfl), hm.mono (fun k _ s => s.1), hb, h.lt, ?_, fun x hx => ?_⟩
  · unfold pushL
    split
    · rename_i h1
      have : q.length < 8 := by simp at h1; exact h1.2
      simp
      omega
    · exact h.n
  · unfold pushL at hx
    split at hx
    · rename_i h1
      rcases List.mem_append.1 hx with hx | hx
      · exact h.c x hx
      · obtain rfl : x = it := by simpa using hx
        unfold mayCost at h1
        simp at h1
        exact h1.1
    · exact h.c x hx
theorem its_tail {S : Nat → Prop} {W : World} {a : Addr} {n c : Nat} {x : It} {xs : List It} (h : Its S W (.slice (some a) n c) (x :: xs)) : (c = 1 → Its S W (.slice (some a) xs.length 0) xs) ∧ Its S W (.slice (some ⟨a.block, a.off + 4, none⟩) xs.length (c - 1)) xs := by
  rcases h with ⟨_, hx⟩ | ⟨a', cap, rs, h, h1, h2, h3⟩
  · cases hx
  · simp only [Value.slice.injEq, Option.some.injEq] at h
    obtain ⟨rfl, rfl, rfl⟩ := h
    simp only [List.length_cons] at h1
    refine ⟨fun e => ?_, .inr ⟨_, _, _, rfl, by omega, by omega, h3.tail⟩⟩
    obtain rfl : xs = [] := List.eq_nil_of_length_eq_zero (by omega)
    exact .inr ⟨a, 0, [], rfl, by simp, by simp, rfl, fun hp => by simp at hp, fun i x hx => by simp at hx, fun r hr => by cases hr⟩
set_option maxRecDepth 100000 in
set_option maxHeartbeats 16000000 in
theorem plays_walk {v : Value} {xs : List (Bool × (Value × It))} {w : World} (h : Sl (fun _ => True) w v 5 encA xs) (hl : ∀ x ∈ xs, LabO w x.2) (hG : Calls Try.prog 17 #[v] w (Is (.bool false) w)) (hn : xs.length ≤ 200) (hg : labs (xs.map Prod.snd) ≤ 1000) :
    Calls Try.prog 4 #[v] w (Tells (.bool true) w) := by
  obtain ⟨p0, c0, rfl, _, _⟩ := h.len
  obtain ⟨i0, hi, hi0, hi1, hi2⟩ := info_parts info_label
  have HI := Lib.hid hi
  have HI0 := Lib.hid hi0
  have HI1 := Lib.hid hi1
  have HI2 := Lib.hid hi2
  have HS := Lib.hid h
  have HL := Lib.hid (fun x hx => act_lb hl hg (x := x) hx)
  have HG := Lib.hid hG
  clear hi hi0 hi1 hi2 h hl hG hg
  go_enter Try.func4, Try.ntmps4
  go_wp2_with fail
  refine HG.out.mono ?_
  rintro e w1 ⟨rfl, rfl⟩
  go_wp2_with fail
  refine (new_any w).mono ?_
  rintro e w1 ⟨rfl, hb, hq⟩
  have O1 : Hid (PS w w.heap.size (.slice none 0 0) [] w1) := Lib.hid ⟨hq, Its.nil _ _, hb, Nat.le_refl _, by simp, fun x hx => by cases hx⟩
  clear hb hq
  obtain ⟨p, hp⟩ : ∃ p, p = w.heap.size := ⟨_, rfl⟩
  rw [← hp] at O1 ⊢
  clear hp HG
  go_wp2_with fail
  go_loopw [4, 5] (fun vm i wr => ∃ (k : Nat) (q : List It), i = .int .i64 k ∧ k ≤ xs.length ∧ PS w p vm q wr) (fun _ i _ => xs.length - (intOf i).toNat)
  · exact ⟨0, [], rfl, by omega, O1.out⟩
  obtain ⟨k, q, rfl, hk, hO⟩ := hrel
  obtain ⟨pm, cm, rfl⟩ := hO.m.slice
  have hcm := cap_le hO.m
  have HO := Lib.hid hO
  clear hO O1
  by_cases hlt : k < xs.length
  · obtain ⟨x, hx⟩ : ∃ x, xs[k]? = some x := ⟨_, List.getElem?_eq_getElem hlt⟩
    have hxm := List.mem_of_getElem? hx
    obtain ⟨a, rfl, _, _, hM⟩ := (HS.out.below HO.out.b).at hx
    have hkk : (k : Int) < (xs.length : Int) := by omega
    have x0 : wr.cell? (a.add (k * 5)) = some (.bool x.1) := hM k x hx 0 _ rfl
    have x1 : wr.cell? ⟨(a.add (k * 5)).block, (a.add (k * 5)).off + 1, none⟩ = some x.2.1 := hM k x hx 1 _ rfl
    have x2 : wr.cell? ⟨(a.add (k * 5)).block, (a.add (k * 5)).off + 2, none⟩ = some (.int .i64 x.2.2.at_) := hM k x hx 2 _ rfl
    have x3 : wr.cell? ⟨(a.add (k * 5)).block, (a.add (k * 5)).off + 3, none⟩ = some (.int .i64 x.2.2.vl) := hM k x hx 3 _ rfl
    have x4 : wr.cell? ⟨(a.add (k * 5)).block, (a.add (k * 5)).off + 4, none⟩ = some (.int .i64 x.2.2.cost) := hM k x hx 4 _ rfl
    have HLX := Lib.hid ((HL.out x hxm).below HO.out.b)
    obtain ⟨⟨b, lv, it⟩, rfl⟩ : ∃ y, x = y := ⟨_, rfl⟩
    simp only at x0 x1 x2 x3 x4 HLX
    obtain ⟨p1, c1, rfl⟩ := HLX.out.slice
    have HX := Lib.hid hx
    have HXM := Lib.hid hxm
    clear hM hx hxm
    go_upto_if 29 with fail
    go_cut [4] (fun vm wc => ∃ q', PS w p vm q' wc)
    case first =>
      cases b
      · have hab : (a.add (k * 5)).block < wr.heap.size := World.block_lt_of_cell? wr _ x0
        have b8 := Lib.hid (Box.new wr #[.slice p1 it.ls.length c1, .int .i64 it.at_, .int .i64 it.vl, .int .i64 it.cost] 32)
        have hsz := HLX.out.sz
        have hb2 : Below wr.heap.size wr ((wr.alloc (.cells #[.slice p1 it.ls.length c1, .int .i64 it.at_, .int .i64 it.vl, .int .i64 it.cost] 32)).alloc (.cells #[] 79)) := ((Below.refl _ wr).alloc (Nat.le_refl _) _).alloc (by simp) _
        have HB2 := Lib.hid hb2
        have HLX2 := Lib.hid (HLX.out.below hb2)
        have he := owns_empty (W := wr.alloc (.cells #[.slice p1 it.ls.length c1, .int .i64 it.at_, .int .i64 it.vl, .int .i64 it.cost] 32)) (cs := #[]) (e := 79) (size := 2) (base := wr.heap.size + 1) (by simp) rfl
        rw [World.size_alloc] at he
        have HE := Lib.hid he
        clear hb2 he
        have hne : ¬ wr.heap.size = (a.add (k * 5)).block := by omega
        go_wp2_with (at_builtin; (refine wpList_append_sl encL_len rfl (.tmp 73) (.tmp 79) 28 rfl (wr.heap.size + 1) 79 i0 _ 32 Try.underlying28 HI.out HI0.out HI1.out HI2.out rfl (by decide) (xs := []) (ys := it.ls) (by rfl) (by rfl) HE.out HLX2.out.sl (fun l _ => encL_one l) (by simp only [List.length_nil]; unfold maxLen; omega) (by simp only [List.length_nil]; omega) (by simp) ?_); intro v2 w2 hown hk2 hat; obtain ⟨p2, c2, rfl⟩ := owns_slice hown; obtain ⟨hbw, b82⟩ := after_in HB2.out (b8.out.alloc (.cells #[] 79)) hk2; have HBW := Lib.hid hbw; have B82 := Lib.hid b82; have c8 := b82.rd.1; have z8 := b82.rd.2; have OWN := Lib.hid hown; replace x1 := cell_below x1 hbw; replace x2 := cell_below x2 hbw; replace x3 := cell_below x3 hbw; replace x4 := cell_below x4 hbw; clear hown hk2 hat hbw b82)
        refine calls_gen (fun W3 => Below wr.heap.size wr W3 ∧ Box W3 wr.heap.size #[.slice p2 it.ls.length c2, .int .i64 it.at_, .int .i64 it.vl, .int .i64 it.cost] 32 ∧ Lw (fun k => (Value.slice p2 it.ls.length c2).ownBlock = some k) W3 (.slice p2 it.ls.length c2) it.ls ∧ ∀ k, (Value.slice p2 it.ls.length c2).ownBlock = some k → wr.heap.size < k ∧ k < W3.heap.size) (in_lw HBW.out B82.out OWN.out hsz) ?_
        rintro w3 ⟨hb3, b83, hl3, ho3⟩
        obtain ⟨vin, hvin⟩ : ∃ v : Value, v = .slice p2 it.ls.length c2 := ⟨_, rfl⟩
        rw [← hvin] at b83 hl3 ho3
        have HVIN := Lib.hid hvin
        clear hvin
        have B83 := Lib.hid b83
        have HL3 := Lib.hid hl3
        have HO3 := Lib.hid ho3
        have HB3 := Lib.hid hb3
        clear b83 hl3 ho3 hb3 x1 x2 x3 x4 OWN B82 HBW HE HLX2 HB2 b8 c8 z8 hne
        refine (Twin_any (HLX.out.below HB3.out)).mono ?_
        rintro e w4 ⟨l4, rfl, hl4, hb4⟩
        have HB4 := Lib.hid (below_then HB3.out hb4)
        have HO4 : Hid (∀ k, w4.heap.size ≤ k → k ≠ p ∧ vin.ownBlock ≠ some k) := Lib.hid (fun k hk => by
          have h1 := HB3.out.size
          have h2 := hb4.size
          have h3 := HO.out.qa.lt
          exact ⟨by omega, fun e => by have := (HO3.out k e).2; omega⟩)
        have HX4 : Hid (∀ k, k < wr.heap.size → k ≠ p → k ≠ p ∧ vin.ownBlock ≠ some k) := Lib.hid (fun k h1 h2 => ⟨h2, fun e => by have := (HO3.out k e).1; omega⟩)
        have HM4 := Lib.hid (((HO.out.m.mono HX4.out)).below HB4.out)
        have HQ4 := Lib.hid ((qat_mono HO.out.qa HX4.out (fun h => h.1 rfl)).below HB4.out)
        have B84 := Lib.hid (B83.out.below hb4)
        have HL4 := Lib.hid (HL3.out.below hb4)
        have hl4' := hl4.lb.mono (T := fun k => k ≠ p ∧ vin.ownBlock ≠ some k) (fun k _ hk => by
          have h1 := HB3.out.size
          have h3 := HO.out.qa.lt
          exact ⟨by omega, fun e => by have := (HO3.out k e).2; omega⟩)
        have HLT := Lib.hid hl4'
        clear hb4 hl4 hl4' HB3 B83 HL3
        go_wp2_with fail
        refine (refPush_any HM4.out HLT.out HO4.out).mono ?_
        rintro e w5 ⟨v5, rfl, hm5, hb5⟩
        have HM5 := Lib.hid hm5
        have HQ5 := Lib.hid (HQ4.out.below hb5)
        have B85 := Lib.hid (B84.out.below hb5)
        have HL5 := Lib.hid (HL4.out.below hb5)
        have HB5 := Lib.hid (below_then HB4.out hb5)
        have HO5 : Hid (∀ k, w5.heap.size ≤ k → k ≠ p ∧ vin.ownBlock ≠ some k) := Lib.hid (fun k hk => HO4.out k (Nat.le_trans hb5.size hk))
        have c5 := B85.out.rd.1
        clear hm5 hb5 HM4 HQ4 B84 HL4 HB4 HO4
        go_wp2_with fail
        refine (push_any HQ5.out HL5.out.lb HO5.out).mono ?_
        rintro e w6 ⟨rfl, hq6, hk6⟩
        have HQ6 := Lib.hid hq6
        have HM6 := Lib.hid (HM5.out.kept hk6 (fun k _ s => s.1))
        have hnp : ∀ k, vin.ownBlock = some k → k ≠ p := fun k e h => by have := (HO3.out k e).1; have := HO.out.qa.lt; omega
        have HL6 := Lib.hid (HL5.out.kept hk6 (fun k _ s => hnp k s))
        have hwp : ¬ wr.heap.size = p := Nat.ne_of_gt HO.out.qa.lt
        have B86 := Lib.hid (B85.out.kept hk6 hwp)
        have HB6 := Lib.hid ((below_then HO.out.b HB5.out).trans (hk6.below (fun k e => e ▸ HO.out.lt) (below_then HO.out.b HB5.out).size))
        have HNP := Lib.hid hnp
        have c6 := B86.out.rd.1
        clear hq6 hk6 hnp c5 HM5 HQ5 B85 HL5 HB5 HO5 hwp
        obtain ⟨r, hr⟩ : ∃ r, pushE q it = r := ⟨_, rfl⟩
        rw [hr]
        clear hr
        go_wp2_with fail
        refine (spoil_any HL6.out).mono ?_
        rintro e w7 ⟨rfl, hk7⟩
        have HQ7 := Lib.hid (HQ6.out.kept hk7 (fun k _ s => s.2) (fun e => HNP.out p e rfl))
        have HM7 := Lib.hid (HM6.out.kept hk7 (fun k _ s => s.2))
        have HB7 := Lib.hid (HB6.out.trans (hk7.below (fun k e => by have := (HO3.out k e).1; have := HO.out.b.size; omega) HB6.out.size))
        clear hk7 HQ6 HM6 HB6 HL6 B86 c6
        go_wp2_with fail
        go_meet
        case rel => exact ⟨pushL q it, push_ps HQ7.out HM7.out HB7.out HO.out⟩
      · clear x1 x2 x3 x4
        cases q with
        | nil =>
          go_wp2_with fail
          refine (pop_nil HO.out.qa).mono ?_
          rintro e w2 ⟨rfl, hb⟩
          have HO2 := Lib.hid (HO.out.below hb)
          clear hb x0 HLX
          go_wp2_with fail
          have hba : Below w2.heap.size w2 (w2.alloc (.cells z4 32)) := (Below.refl _ w2).alloc (Nat.le_refl _) _
          have bx := Lib.hid (Box.new w2 z4 32)
          have HO3 := Lib.hid (HO2.out.below hba)
          obtain ⟨w3, hw3⟩ : ∃ w3, w2.alloc (.cells z4 32) = w3 := ⟨_, rfl⟩
          rw [hw3] at bx HO3 ⊢
          clear hw3 hba HO2 HO
          refine anyH_start 28 (fun w' => Below w3.heap.size w3 w') (by kernel_rfl) rfl ?_
          have hb0 : Below w3.heap.size w3 w3.drew := (Below.refl _ w3).drew
          ((first | (refine anyH_free (i := 0) (v := ?_) rfl (by kernel_rfl) (fun _ _ _ h => h) (Or.inl ⟨rfl, fun w' hS => ?_⟩) hb0 ?_; rotate_left; (have d1 := (bx.out.below hS).rd.1; go_simp <;> with_reducible rfl)) | (refine anyH_free (i := 0) (v := undef) rfl (by kernel_rfl) (fun _ _ _ h => h) (Or.inr ⟨rfl, rfl⟩) hb0 ?_)); (simp only [Act.put, List.setIfInBounds_toArray, List.set_cons_zero, List.set_cons_succ])); ((first | (refine anyH_free (i := 1) (v := ?_) rfl (by kernel_rfl) (fun _ _ _ h => h) (Or.inl ⟨rfl, fun w' hS => ?_⟩) hb0 ?_; rotate_left; (have d1 := (bx.out.below hS).rd.1; go_simp <;> with_reducible rfl)) | (refine anyH_free (i := 1) (v := undef) rfl (by kernel_rfl) (fun _ _ _ h => h) (Or.inr ⟨rfl, rfl⟩) hb0 ?_)); (simp only [Act.put, List.setIfInBounds_toArray, List.set_cons_zero, List.set_cons_succ])); ((first | (refine anyH_free (i := 2) (v := ?_) rfl (by kernel_rfl) (fun _ _ _ h => h) (Or.inl ⟨rfl, fun w' hS => ?_⟩) hb0 ?_; rotate_left; (have d1 := (bx.out.below hS).rd.1; go_simp <;> with_reducible rfl)) | (refine anyH_free (i := 2) (v := undef) rfl (by kernel_rfl) (fun _ _ _ h => h) (Or.inr ⟨rfl, rfl⟩) hb0 ?_)); (simp only [Act.put, List.setIfInBounds_toArray, List.set_cons_zero, List.set_cons_succ])); ((first | (refine anyH_free (i := 3) (v := ?_) rfl (by kernel_rfl) (fun _ _ _ h => h) (Or.inl ⟨rfl, fun w' hS => ?_⟩) hb0 ?_; rotate_left; (have d1 := (bx.out.below hS).rd.1; go_simp <;> with_reducible rfl)) | (refine anyH_free (i := 3) (v := undef) rfl (by kernel_rfl) (fun _ _ _ h => h) (Or.inr ⟨rfl, rfl⟩) hb0 ?_)); (simp only [Act.put, List.setIfInBounds_toArray, List.set_cons_zero, List.set_cons_succ])); ((first | (refine anyH_free (i := 4) (v := ?_) rfl (by kernel_rfl) (fun _ _ _ h => h) (Or.inl ⟨rfl, fun w' hS => ?_⟩) hb0 ?_; rotate_left; (have d1 := (bx.out.below hS).rd.1; go_simp <;> with_reducible rfl)) | (refine anyH_free (i := 4) (v := undef) rfl (by kernel_rfl) (fun _ _ _ h => h) (Or.inr ⟨rfl, rfl⟩) hb0 ?_)); (simp only [Act.put, List.setIfInBounds_toArray, List.set_cons_zero, List.set_cons_succ])); ((first | (refine anyH_free (i := 5) (v := ?_) rfl (by kernel_rfl) (fun _ _ _ h => h) (Or.inl ⟨rfl, fun w' hS => ?_⟩) hb0 ?_; rotate_left; (have d1 := (bx.out.below hS).rd.1; go_simp <;> with_reducible rfl)) | (refine anyH_free (i := 5) (v := undef) rfl (by kernel_rfl) (fun _ _ _ h => h) (Or.inr ⟨rfl, rfl⟩) hb0 ?_)); (simp only [Act.put, List.setIfInBounds_toArray, List.set_cons_zero, List.set_cons_succ])); ((first | (refine anyH_free (i := 6) (v := ?_) rfl (by kernel_rfl) (fun _ _ _ h => h) (Or.inl ⟨rfl, fun w' hS => ?_⟩) hb0 ?_; rotate_left; (have d1 := (bx.out.below hS).rd.1; go_simp <;> with_reducible rfl)) | (refine anyH_free (i := 6) (v := undef) rfl (by kernel_rfl) (fun _ _ _ h => h) (Or.inr ⟨rfl, rfl⟩) hb0 ?_)); (simp only [Act.put, List.setIfInBounds_toArray, List.set_cons_zero, List.set_cons_succ])); ((first | (refine anyH_free (i := 7) (v := ?_) rfl (by kernel_rfl) (fun _ _ _ h => h) (Or.inl ⟨rfl, fun w' hS => ?_⟩) hb0 ?_; rotate_left; (have d1 := (bx.out.below hS).rd.1; go_simp <;> with_reducible rfl)) | (refine anyH_free (i := 7) (v := undef) rfl (by kernel_rfl) (fun _ _ _ h => h) (Or.inr ⟨rfl, rfl⟩) hb0 ?_)); (simp only [Act.put, List.setIfInBounds_toArray, List.set_cons_zero, List.set_cons_succ])); ((first | (refine anyH_free (i := 8) (v := ?_) rfl (by kernel_rfl) (fun _ _ _ h => h) (Or.inl ⟨rfl, fun w' hS => ?_⟩) hb0 ?_; rotate_left; (have d1 := (bx.out.below hS).rd.1; go_simp <;> with_reducible rfl)) | (refine anyH_free (i := 8) (v := undef) rfl (by kernel_rfl) (fun _ _ _ h => h) (Or.inr ⟨rfl, rfl⟩) hb0 ?_)); (simp only [Act.put, List.setIfInBounds_toArray, List.set_cons_zero, List.set_cons_succ])); ((first | (refine anyH_free (i := 9) (v := ?_) rfl (by kernel_rfl) (fun _ _ _ h => h) (Or.inl ⟨rfl, fun w' hS => ?_⟩) hb0 ?_; rotate_left; (have d1 := (bx.out.below hS).rd.1; go_simp <;> with_reducible rfl)) | (refine anyH_free (i := 9) (v := undef) rfl (by kernel_rfl) (fun _ _ _ h => h) (Or.inr ⟨rfl, rfl⟩) hb0 ?_)); (simp only [Act.put, List.setIfInBounds_toArray, List.set_cons_zero, List.set_cons_succ])); ((first | (refine anyH_free (i := 10) (v := ?_) rfl (by kernel_rfl) (fun _ _ _ h => h) (Or.inl ⟨rfl, fun w' hS => ?_⟩) hb0 ?_; rotate_left; (have d1 := (bx.out.below hS).rd.1; go_simp <;> with_reducible rfl)) | (refine anyH_free (i := 10) (v := undef) rfl (by kernel_rfl) (fun _ _ _ h => h) (Or.inr ⟨rfl, rfl⟩) hb0 ?_)); (simp only [Act.put, List.setIfInBounds_toArray, List.set_cons_zero, List.set_cons_succ])); ((first | (refine anyH_free (i := 11) (v := ?_) rfl (by kernel_rfl) (fun _ _ _ h => h) (Or.inl ⟨rfl, fun w' hS => ?_⟩) hb0 ?_; rotate_left; (have d1 := (bx.out.below hS).rd.1; go_simp <;> with_reducible rfl)) | (refine anyH_free (i := 11) (v := undef) rfl (by kernel_rfl) (fun _ _ _ h => h) (Or.inr ⟨rfl, rfl⟩) hb0 ?_)); (simp only [Act.put, List.setIfInBounds_toArray, List.set_cons_zero, List.set_cons_succ])); ((first | (refine anyH_free (i := 12) (v := ?_) rfl (by kernel_rfl) (fun _ _ _ h => h) (Or.inl ⟨rfl, fun w' hS => ?_⟩) hb0 ?_; rotate_left; (have d1 := (bx.out.below hS).rd.1; go_simp <;> with_reducible rfl)) | (refine anyH_free (i := 12) (v := undef) rfl (by kernel_rfl) (fun _ _ _ h => h) (Or.inr ⟨rfl, rfl⟩) hb0 ?_)); (simp only [Act.put, List.setIfInBounds_toArray, List.set_cons_zero, List.set_cons_succ])); ((first | (refine anyH_free (i := 13) (v := ?_) rfl (by kernel_rfl) (fun _ _ _ h => h) (Or.inl ⟨rfl, fun w' hS => ?_⟩) hb0 ?_; rotate_left; (have d1 := (bx.out.below hS).rd.1; go_simp <;> with_reducible rfl)) | (refine anyH_free (i := 13) (v := undef) rfl (by kernel_rfl) (fun _ _ _ h => h) (Or.inr ⟨rfl, rfl⟩) hb0 ?_)); (simp only [Act.put, List.setIfInBounds_toArray, List.set_cons_zero, List.set_cons_succ])); ((first | (refine anyH_free (i := 14) (v := ?_) rfl (by kernel_rfl) (fun _ _ _ h => h) (Or.inl ⟨rfl, fun w' hS => ?_⟩) hb0 ?_; rotate_left; (have d1 := (bx.out.below hS).rd.1; go_simp <;> with_reducible rfl)) | (refine anyH_free (i := 14) (v := undef) rfl (by kernel_rfl) (fun _ _ _ h => h) (Or.inr ⟨rfl, rfl⟩) hb0 ?_)); (simp only [Act.put, List.setIfInBounds_toArray, List.set_cons_zero, List.set_cons_succ])); ((first | (refine anyH_free (i := 15) (v := ?_) rfl (by kernel_rfl) (fun _ _ _ h => h) (Or.inl ⟨rfl, fun w' hS => ?_⟩) hb0 ?_; rotate_left; (have d1 := (bx.out.below hS).rd.1; go_simp <;> with_reducible rfl)) | (refine anyH_free (i := 15) (v := undef) rfl (by kernel_rfl) (fun _ _ _ h => h) (Or.inr ⟨rfl, rfl⟩) hb0 ?_)); (simp only [Act.put, List.setIfInBounds_toArray, List.set_cons_zero, List.set_cons_succ])); ((first | (refine anyH_free (i := 16) (v := ?_) rfl (by kernel_rfl) (fun _ _ _ h => h) (Or.inl ⟨rfl, fun w' hS => ?_⟩) hb0 ?_; rotate_left; (have d1 := (bx.out.below hS).rd.1; go_simp <;> with_reducible rfl)) | (refine anyH_free (i := 16) (v := undef) rfl (by kernel_rfl) (fun _ _ _ h => h) (Or.inr ⟨rfl, rfl⟩) hb0 ?_)); (simp only [Act.put, List.setIfInBounds_toArray, List.set_cons_zero, List.set_cons_succ])); ((first | (refine anyH_free (i := 17) (v := ?_) rfl (by kernel_rfl) (fun _ _ _ h => h) (Or.inl ⟨rfl, fun w' hS => ?_⟩) hb0 ?_; rotate_left; (have d1 := (bx.out.below hS).rd.1; go_simp <;> with_reducible rfl)) | (refine anyH_free (i := 17) (v := undef) rfl (by kernel_rfl) (fun _ _ _ h => h) (Or.inr ⟨rfl, rfl⟩) hb0 ?_)); (simp only [Act.put, List.setIfInBounds_toArray, List.set_cons_zero, List.set_cons_succ])); ((first | (refine anyH_free (i := 18) (v := ?_) rfl (by kernel_rfl) (fun _ _ _ h => h) (Or.inl ⟨rfl, fun w' hS => ?_⟩) hb0 ?_; rotate_left; (have d1 := (bx.out.below hS).rd.1; go_simp <;> with_reducible rfl)) | (refine anyH_free (i := 18) (v := undef) rfl (by kernel_rfl) (fun _ _ _ h => h) (Or.inr ⟨rfl, rfl⟩) hb0 ?_)); (simp only [Act.put, List.setIfInBounds_toArray, List.set_cons_zero, List.set_cons_succ])); ((first | (refine anyH_free (i := 19) (v := ?_) rfl (by kernel_rfl) (fun _ _ _ h => h) (Or.inl ⟨rfl, fun w' hS => ?_⟩) hb0 ?_; rotate_left; (have d1 := (bx.out.below hS).rd.1; go_simp <;> with_reducible rfl)) | (refine anyH_free (i := 19) (v := undef) rfl (by kernel_rfl) (fun _ _ _ h => h) (Or.inr ⟨rfl, rfl⟩) hb0 ?_)); (simp only [Act.put, List.setIfInBounds_toArray, List.set_cons_zero, List.set_cons_succ])); ((first | (refine anyH_free (i := 20) (v := ?_) rfl (by kernel_rfl) (fun _ _ _ h => h) (Or.inl ⟨rfl, fun w' hS => ?_⟩) hb0 ?_; rotate_left; (have d1 := (bx.out.below hS).rd.1; go_simp <;> with_reducible rfl)) | (refine anyH_free (i := 20) (v := undef) rfl (by kernel_rfl) (fun _ _ _ h => h) (Or.inr ⟨rfl, rfl⟩) hb0 ?_)); (simp only [Act.put, List.setIfInBounds_toArray, List.set_cons_zero, List.set_cons_succ])); ((first | (refine anyH_free (i := 21) (v := ?_) rfl (by kernel_rfl) (fun _ _ _ h => h) (Or.inl ⟨rfl, fun w' hS => ?_⟩) hb0 ?_; rotate_left; (have d1 := (bx.out.below hS).rd.1; go_simp <;> with_reducible rfl)) | (refine anyH_free (i := 21) (v := undef) rfl (by kernel_rfl) (fun _ _ _ h => h) (Or.inr ⟨rfl, rfl⟩) hb0 ?_)); (simp only [Act.put, List.setIfInBounds_toArray, List.set_cons_zero, List.set_cons_succ])); ((first | (refine anyH_free (i := 23) (v := ?_) rfl (by kernel_rfl) (fun _ _ _ h => h) (Or.inl ⟨rfl, fun w' hS => ?_⟩) hb0 ?_; rotate_left; (have d1 := (bx.out.below hS).rd.1; go_simp <;> with_reducible rfl)) | (refine anyH_free (i := 23) (v := undef) rfl (by kernel_rfl) (fun _ _ _ h => h) (Or.inr ⟨rfl, rfl⟩) hb0 ?_)); (simp only [Act.put, List.setIfInBounds_toArray, List.set_cons_zero, List.set_cons_succ]))
          refine anyH_sole (i := 22) rfl (by kernel_rfl) rfl (fun K hK => ?_)
          go_simp
          refine (Twin_any (x := z0) (Lb.nil (fun _ => True) _)).mono ?_
          rintro e w4 ⟨l4, rfl, hl4, hb⟩
          have hb4 := below_then hb0 hb
          refine hK _ _ hb4 ?_
          clear hK K hb
          refine anyH_sole (i := 24) rfl (by kernel_rfl) rfl (fun K hK => ?_)
          go_simp
          refine (same_any (x := z0) hl4.lb (Lb.nil (fun _ => True) w4)).mono ?_
          rintro e w5 ⟨rfl, hb⟩
          have hb5 := below_then hb4 hb
          refine hK _ _ hb5 ?_
          clear hK K hb hb4 hl4
          ((first | (refine anyH_free (i := 25) (v := ?_) rfl (by kernel_rfl) (fun _ _ _ h => h) (Or.inl ⟨rfl, fun w' hS => ?_⟩) hb5 ?_; rotate_left; (skip; go_simp <;> with_reducible rfl)) | (refine anyH_free (i := 25) (v := undef) rfl (by kernel_rfl) (fun _ _ _ h => h) (Or.inr ⟨rfl, rfl⟩) hb5 ?_)); (simp only [Act.put, List.setIfInBounds_toArray, List.set_cons_zero, List.set_cons_succ])); ((first | (refine anyH_free (i := 26) (v := ?_) rfl (by kernel_rfl) (fun _ _ _ h => h) (Or.inl ⟨rfl, fun w' hS => ?_⟩) hb5 ?_; rotate_left; (skip; go_simp <;> with_reducible rfl)) | (refine anyH_free (i := 26) (v := undef) rfl (by kernel_rfl) (fun _ _ _ h => h) (Or.inr ⟨rfl, rfl⟩) hb5 ?_)); (simp only [Act.put, List.setIfInBounds_toArray, List.set_cons_zero, List.set_cons_succ])); ((first | (refine anyH_free (i := 27) (v := ?_) rfl (by kernel_rfl) (fun _ _ _ h => h) (Or.inl ⟨rfl, fun w' hS => ?_⟩) hb5 ?_; rotate_left; (skip; go_simp <;> with_reducible rfl)) | (refine anyH_free (i := 27) (v := undef) rfl (by kernel_rfl) (fun _ _ _ h => h) (Or.inr ⟨rfl, rfl⟩) hb5 ?_)); (simp only [Act.put, List.setIfInBounds_toArray, List.set_cons_zero, List.set_cons_succ]))
          refine anyH_done (by kernel_rfl) ?_
          have HO5 := Lib.hid (HO3.out.below hb5)
          clear hb5 hb0 bx HO3
          go_wp2_with fail
          go_meet
          case rel => exact ⟨[], HO5.out⟩
        | cons y q =>
          go_wp2_with fail
          refine (pop_some HO.out.qa).mono ?_
          rintro e w2 ⟨l2, rfl, hl2, hq2, hk2⟩
          obtain ⟨p2, c2, rfl⟩ := hl2.lb.slice
          have HM2 := Lib.hid (HO.out.m.kept hk2 (fun k _ s => s))
          have HB2 := Lib.hid (HO.out.b.trans (hk2.below (fun k e => e ▸ HO.out.lt) HO.out.b.size))
          have HL2 := Lib.hid hl2
          have HQ2 := Lib.hid hq2
          clear hl2 hq2 hk2 x0 HLX
          go_wp2_with fail
          have hba : Below w2.heap.size w2 (w2.alloc (.cells #[.slice p2 y.ls.length c2, .int .i64 y.at_, .int .i64 y.vl, .int .i64 y.cost] 32)) := (Below.refl _ w2).alloc (Nat.le_refl _) _
          have bx := Lib.hid (Box.new w2 #[.slice p2 y.ls.length c2, .int .i64 y.at_, .int .i64 y.vl, .int .i64 y.cost] 32)
          have HM3 := Lib.hid (HM2.out.below hba)
          have HB3 := Lib.hid (below_then HB2.out hba)
          have HL3 := Lib.hid (HL2.out.lb.below hba)
          have HQ3 := Lib.hid (HQ2.out.below hba)
          obtain ⟨w3, hw3⟩ : ∃ w3, w2.alloc (.cells #[.slice p2 y.ls.length c2, .int .i64 y.at_, .int .i64 y.vl, .int .i64 y.cost] 32) = w3 := ⟨_, rfl⟩
          rw [hw3] at bx HM3 HB3 HL3 HQ3 ⊢
          have HN := Lib.hid (And.intro HO.out.n (And.intro HO.out.c HO.out.lt))
          clear hw3 hba HM2 HB2 HL2 HQ2 HO
          obtain ⟨am, lm, rfl, hlm, y0, y1, y2, y3⟩ := HM3.out.at (i := 0) (x := y) rfl
          rw [Nat.zero_mul, Addr.add_zero'] at y0 y1 y2 y3
          have HLM := Lib.hid hlm
          clear hlm
          have hpos : (0 : Int) < (q.length : Int) + 1 := by omega
          have hq0 : (0 : Int) ≤ (q.length : Int) := by omega
          have hcm1 : q.length + 1 ≤ cm := hcm.1
          refine anyH_start 28 (fun w' => Below w3.heap.size w3 w') (by kernel_rfl) rfl ?_
          have hb0 : Below w3.heap.size w3 w3.drew := (Below.refl _ w3).drew
          ((first | (refine anyH_free (i := 0) (v := ?_) rfl (by kernel_rfl) (fun _ _ _ h => h) (Or.inl ⟨rfl, fun w' hS => ?_⟩) hb0 ?_; rotate_left; (have d1 := (bx.out.below hS).rd.1; have y0 := cell_below y0 hS; have y1 := cell_below y1 hS; have y2 := cell_below y2 hS; have y3 := cell_below y3 hS; go_simp <;> with_reducible rfl)) | (refine anyH_free (i := 0) (v := undef) rfl (by kernel_rfl) (fun _ _ _ h => h) (Or.inr ⟨rfl, rfl⟩) hb0 ?_)); (simp only [Act.put, List.setIfInBounds_toArray, List.set_cons_zero, List.set_cons_succ])); ((first | (refine anyH_free (i := 1) (v := ?_) rfl (by kernel_rfl) (fun _ _ _ h => h) (Or.inl ⟨rfl, fun w' hS => ?_⟩) hb0 ?_; rotate_left; (have d1 := (bx.out.below hS).rd.1; have y0 := cell_below y0 hS; have y1 := cell_below y1 hS; have y2 := cell_below y2 hS; have y3 := cell_below y3 hS; go_simp <;> with_reducible rfl)) | (refine anyH_free (i := 1) (v := undef) rfl (by kernel_rfl) (fun _ _ _ h => h) (Or.inr ⟨rfl, rfl⟩) hb0 ?_)); (simp only [Act.put, List.setIfInBounds_toArray, List.set_cons_zero, List.set_cons_succ])); ((first | (refine anyH_free (i := 2) (v := ?_) rfl (by kernel_rfl) (fun _ _ _ h => h) (Or.inl ⟨rfl, fun w' hS => ?_⟩) hb0 ?_; rotate_left; (have d1 := (bx.out.below hS).rd.1; have y0 := cell_below y0 hS; have y1 := cell_below y1 hS; have y2 := cell_below y2 hS; have y3 := cell_below y3 hS; go_simp <;> with_reducible rfl)) | (refine anyH_free (i := 2) (v := undef) rfl (by kernel_rfl) (fun _ _ _ h => h) (Or.inr ⟨rfl, rfl⟩) hb0 ?_)); (simp only [Act.put, List.setIfInBounds_toArray, List.set_cons_zero, List.set_cons_succ])); ((first | (refine anyH_free (i := 3) (v := ?_) rfl (by kernel_rfl) (fun _ _ _ h => h) (Or.inl ⟨rfl, fun w' hS => ?_⟩) hb0 ?_; rotate_left; (have d1 := (bx.out.below hS).rd.1; have y0 := cell_below y0 hS; have y1 := cell_below y1 hS; have y2 := cell_below y2 hS; have y3 := cell_below y3 hS; go_simp <;> with_reducible rfl)) | (refine anyH_free (i := 3) (v := undef) rfl (by kernel_rfl) (fun _ _ _ h => h) (Or.inr ⟨rfl, rfl⟩) hb0 ?_)); (simp only [Act.put, List.setIfInBounds_toArray, List.set_cons_zero, List.set_cons_succ])); ((first | (refine anyH_free (i := 4) (v := ?_) rfl (by kernel_rfl) (fun _ _ _ h => h) (Or.inl ⟨rfl, fun w' hS => ?_⟩) hb0 ?_; rotate_left; (have d1 := (bx.out.below hS).rd.1; have y0 := cell_below y0 hS; have y1 := cell_below y1 hS; have y2 := cell_below y2 hS; have y3 := cell_below y3 hS; go_simp <;> with_reducible rfl)) | (refine anyH_free (i := 4) (v := undef) rfl (by kernel_rfl) (fun _ _ _ h => h) (Or.inr ⟨rfl, rfl⟩) hb0 ?_)); (simp only [Act.put, List.setIfInBounds_toArray, List.set_cons_zero, List.set_cons_succ])); ((first | (refine anyH_free (i := 5) (v := ?_) rfl (by kernel_rfl) (fun _ _ _ h => h) (Or.inl ⟨rfl, fun w' hS => ?_⟩) hb0 ?_; rotate_left; (have d1 := (bx.out.below hS).rd.1; have y0 := cell_below y0 hS; have y1 := cell_below y1 hS; have y2 := cell_below y2 hS; have y3 := cell_below y3 hS; go_simp <;> with_reducible rfl)) | (refine anyH_free (i := 5) (v := undef) rfl (by kernel_rfl) (fun _ _ _ h => h) (Or.inr ⟨rfl, rfl⟩) hb0 ?_)); (simp only [Act.put, List.setIfInBounds_toArray, List.set_cons_zero, List.set_cons_succ])); ((first | (refine anyH_free (i := 6) (v := ?_) rfl (by kernel_rfl) (fun _ _ _ h => h) (Or.inl ⟨rfl, fun w' hS => ?_⟩) hb0 ?_; rotate_left; (have d1 := (bx.out.below hS).rd.1; have y0 := cell_below y0 hS; have y1 := cell_below y1 hS; have y2 := cell_below y2 hS; have y3 := cell_below y3 hS; go_simp <;> with_reducible rfl)) | (refine anyH_free (i := 6) (v := undef) rfl (by kernel_rfl) (fun _ _ _ h => h) (Or.inr ⟨rfl, rfl⟩) hb0 ?_)); (simp only [Act.put, List.setIfInBounds_toArray, List.set_cons_zero, List.set_cons_succ])); ((first | (refine anyH_free (i := 7) (v := ?_) rfl (by kernel_rfl) (fun _ _ _ h => h) (Or.inl ⟨rfl, fun w' hS => ?_⟩) hb0 ?_; rotate_left; (have d1 := (bx.out.below hS).rd.1; have y0 := cell_below y0 hS; have y1 := cell_below y1 hS; have y2 := cell_below y2 hS; have y3 := cell_below y3 hS; go_simp <;> with_reducible rfl)) | (refine anyH_free (i := 7) (v := undef) rfl (by kernel_rfl) (fun _ _ _ h => h) (Or.inr ⟨rfl, rfl⟩) hb0 ?_)); (simp only [Act.put, List.setIfInBounds_toArray, List.set_cons_zero, List.set_cons_succ])); ((first | (refine anyH_free (i := 8) (v := ?_) rfl (by kernel_rfl) (fun _ _ _ h => h) (Or.inl ⟨rfl, fun w' hS => ?_⟩) hb0 ?_; rotate_left; (have d1 := (bx.out.below hS).rd.1; have y0 := cell_below y0 hS; have y1 := cell_below y1 hS; have y2 := cell_below y2 hS; have y3 := cell_below y3 hS; go_simp <;> with_reducible rfl)) | (refine anyH_free (i := 8) (v := undef) rfl (by kernel_rfl) (fun _ _ _ h => h) (Or.inr ⟨rfl, rfl⟩) hb0 ?_)); (simp only [Act.put, List.setIfInBounds_toArray, List.set_cons_zero, List.set_cons_succ])); ((first | (refine anyH_free (i := 10) (v := ?_) rfl (by kernel_rfl) (fun _ _ _ h => h) (Or.inl ⟨rfl, fun w' hS => ?_⟩) hb0 ?_; rotate_left; (have d1 := (bx.out.below hS).rd.1; have y0 := cell_below y0 hS; have y1 := cell_below y1 hS; have y2 := cell_below y2 hS; have y3 := cell_below y3 hS; go_simp <;> with_reducible rfl)) | (refine anyH_free (i := 10) (v := undef) rfl (by kernel_rfl) (fun _ _ _ h => h) (Or.inr ⟨rfl, rfl⟩) hb0 ?_)); (simp only [Act.put, List.setIfInBounds_toArray, List.set_cons_zero, List.set_cons_succ])); ((first | (refine anyH_free (i := 11) (v := ?_) rfl (by kernel_rfl) (fun _ _ _ h => h) (Or.inl ⟨rfl, fun w' hS => ?_⟩) hb0 ?_; rotate_left; (have d1 := (bx.out.below hS).rd.1; have y0 := cell_below y0 hS; have y1 := cell_below y1 hS; have y2 := cell_below y2 hS; have y3 := cell_below y3 hS; go_simp <;> with_reducible rfl)) | (refine anyH_free (i := 11) (v := undef) rfl (by kernel_rfl) (fun _ _ _ h => h) (Or.inr ⟨rfl, rfl⟩) hb0 ?_)); (simp only [Act.put, List.setIfInBounds_toArray, List.set_cons_zero, List.set_cons_succ])); ((first | (refine anyH_free (i := 12) (v := ?_) rfl (by kernel_rfl) (fun _ _ _ h => h) (Or.inl ⟨rfl, fun w' hS => ?_⟩) hb0 ?_; rotate_left; (have d1 := (bx.out.below hS).rd.1; have y0 := cell_below y0 hS; have y1 := cell_below y1 hS; have y2 := cell_below y2 hS; have y3 := cell_below y3 hS; go_simp <;> with_reducible rfl)) | (refine anyH_free (i := 12) (v := undef) rfl (by kernel_rfl) (fun _ _ _ h => h) (Or.inr ⟨rfl, rfl⟩) hb0 ?_)); (simp only [Act.put, List.setIfInBounds_toArray, List.set_cons_zero, List.set_cons_succ]))
          refine anyH_sole (i := 9) rfl (by kernel_rfl) rfl (fun K hK => ?_)
          go_simp
          refine (Twin_any (HL3.out.below hb0)).mono ?_
          rintro e w4 ⟨l4, rfl, hl4, hb⟩
          have hb4 := below_then hb0 hb
          refine hK _ _ hb4 ?_
          clear hK K hb
          refine anyH_sole (i := 13) rfl (by kernel_rfl) rfl (fun K hK => ?_)
          go_simp
          refine (same_any hl4.lb (HLM.out.below hb4)).mono ?_
          rintro e w5 ⟨rfl, hb⟩
          have hb5 := below_then hb4 hb
          refine hK _ _ hb5 ?_
          clear hK K hb hb4 hl4
          ((first | (refine anyH_free (i := 14) (v := ?_) rfl (by kernel_rfl) (fun _ _ _ h => h) (Or.inl ⟨rfl, fun w' hS => ?_⟩) hb5 ?_; rotate_left; (skip; go_simp <;> with_reducible rfl)) | (refine anyH_free (i := 14) (v := undef) rfl (by kernel_rfl) (fun _ _ _ h => h) (Or.inr ⟨rfl, rfl⟩) hb5 ?_)); (simp only [Act.put, List.setIfInBounds_toArray, List.set_cons_zero, List.set_cons_succ])); ((first | (refine anyH_free (i := 15) (v := ?_) rfl (by kernel_rfl) (fun _ _ _ h => h) (Or.inl ⟨rfl, fun w' hS => ?_⟩) hb5 ?_; rotate_left; (skip; go_simp <;> with_reducible rfl)) | (refine anyH_free (i := 15) (v := undef) rfl (by kernel_rfl) (fun _ _ _ h => h) (Or.inr ⟨rfl, rfl⟩) hb5 ?_)); (simp only [Act.put, List.setIfInBounds_toArray, List.set_cons_zero, List.set_cons_succ])); ((first | (refine anyH_free (i := 16) (v := ?_) rfl (by kernel_rfl) (fun _ _ _ h => h) (Or.inl ⟨rfl, fun w' hS => ?_⟩) hb5 ?_; rotate_left; (skip; go_simp <;> with_reducible rfl)) | (refine anyH_free (i := 16) (v := undef) rfl (by kernel_rfl) (fun _ _ _ h => h) (Or.inr ⟨rfl, rfl⟩) hb5 ?_)); (simp only [Act.put, List.setIfInBounds_toArray, List.set_cons_zero, List.set_cons_succ])); ((first | (refine anyH_free (i := 17) (v := ?_) rfl (by kernel_rfl) (fun _ _ _ h => h) (Or.inl ⟨rfl, fun w' hS => ?_⟩) hb5 ?_; rotate_left; (skip; go_simp <;> with_reducible rfl)) | (refine anyH_free (i := 17) (v := undef) rfl (by kernel_rfl) (fun _ _ _ h => h) (Or.inr ⟨rfl, rfl⟩) hb5 ?_)); (simp only [Act.put, List.setIfInBounds_toArray, List.set_cons_zero, List.set_cons_succ])); ((first | (refine anyH_free (i := 18) (v := ?_) rfl (by kernel_rfl) (fun _ _ _ h => h) (Or.inl ⟨rfl, fun w' hS => ?_⟩) hb5 ?_; rotate_left; (skip; go_simp <;> with_reducible rfl)) | (refine anyH_free (i := 18) (v := undef) rfl (by kernel_rfl) (fun _ _ _ h => h) (Or.inr ⟨rfl, rfl⟩) hb5 ?_)); (simp only [Act.put, List.setIfInBounds_toArray, List.set_cons_zero, List.set_cons_succ])); ((first | (refine anyH_free (i := 19) (v := ?_) rfl (by kernel_rfl) (fun _ _ _ h => h) (Or.inl ⟨rfl, fun w' hS => ?_⟩) hb5 ?_; rotate_left; (skip; go_simp <;> with_reducible rfl)) | (refine anyH_free (i := 19) (v := undef) rfl (by kernel_rfl) (fun _ _ _ h => h) (Or.inr ⟨rfl, rfl⟩) hb5 ?_)); (simp only [Act.put, List.setIfInBounds_toArray, List.set_cons_zero, List.set_cons_succ])); ((first | (refine anyH_free (i := 20) (v := ?_) rfl (by kernel_rfl) (fun _ _ _ h => h) (Or.inl ⟨rfl, fun w' hS => ?_⟩) hb5 ?_; rotate_left; (skip; go_simp <;> with_reducible rfl)) | (refine anyH_free (i := 20) (v := undef) rfl (by kernel_rfl) (fun _ _ _ h => h) (Or.inr ⟨rfl, rfl⟩) hb5 ?_)); (simp only [Act.put, List.setIfInBounds_toArray, List.set_cons_zero, List.set_cons_succ])); ((first | (refine anyH_free (i := 21) (v := ?_) rfl (by kernel_rfl) (fun _ _ _ h => h) (Or.inl ⟨rfl, fun w' hS => ?_⟩) hb5 ?_; rotate_left; (skip; go_simp <;> with_reducible rfl)) | (refine anyH_free (i := 21) (v := undef) rfl (by kernel_rfl) (fun _ _ _ h => h) (Or.inr ⟨rfl, rfl⟩) hb5 ?_)); (simp only [Act.put, List.setIfInBounds_toArray, List.set_cons_zero, List.set_cons_succ])); ((first | (refine anyH_free (i := 22) (v := ?_) rfl (by kernel_rfl) (fun _ _ _ h => h) (Or.inl ⟨rfl, fun w' hS => ?_⟩) hb5 ?_; rotate_left; (skip; go_simp <;> with_reducible rfl)) | (refine anyH_free (i := 22) (v := undef) rfl (by kernel_rfl) (fun _ _ _ h => h) (Or.inr ⟨rfl, rfl⟩) hb5 ?_)); (simp only [Act.put, List.setIfInBounds_toArray, List.set_cons_zero, List.set_cons_succ])); ((first | (refine anyH_free (i := 23) (v := ?_) rfl (by kernel_rfl) (fun _ _ _ h => h) (Or.inl ⟨rfl, fun w' hS => ?_⟩) hb5 ?_; rotate_left; (skip; go_simp <;> with_reducible rfl)) | (refine anyH_free (i := 23) (v := undef) rfl (by kernel_rfl) (fun _ _ _ h => h) (Or.inr ⟨rfl, rfl⟩) hb5 ?_)); (simp only [Act.put, List.setIfInBounds_toArray, List.set_cons_zero, List.set_cons_succ])); ((first | (refine anyH_free (i := 24) (v := ?_) rfl (by kernel_rfl) (fun _ _ _ h => h) (Or.inl ⟨rfl, fun w' hS => ?_⟩) hb5 ?_; rotate_left; (skip; go_simp <;> with_reducible rfl)) | (refine anyH_free (i := 24) (v := undef) rfl (by kernel_rfl) (fun _ _ _ h => h) (Or.inr ⟨rfl, rfl⟩) hb5 ?_)); (simp only [Act.put, List.setIfInBounds_toArray, List.set_cons_zero, List.set_cons_succ])); ((first | (refine anyH_free (i := 25) (v := ?_) rfl (by kernel_rfl) (fun _ _ _ h => h) (Or.inl ⟨rfl, fun w' hS => ?_⟩) hb5 ?_; rotate_left; (skip; go_simp <;> with_reducible rfl)) | (refine anyH_free (i := 25) (v := undef) rfl (by kernel_rfl) (fun _ _ _ h => h) (Or.inr ⟨rfl, rfl⟩) hb5 ?_)); (simp only [Act.put, List.setIfInBounds_toArray, List.set_cons_zero, List.set_cons_succ])); ((first | (refine anyH_free (i := 26) (v := ?_) rfl (by kernel_rfl) (fun _ _ _ h => h) (Or.inl ⟨rfl, fun w' hS => ?_⟩) hb5 ?_; rotate_left; (skip; go_simp <;> with_reducible rfl)) | (refine anyH_free (i := 26) (v := undef) rfl (by kernel_rfl) (fun _ _ _ h => h) (Or.inr ⟨rfl, rfl⟩) hb5 ?_)); (simp only [Act.put, List.setIfInBounds_toArray, List.set_cons_zero, List.set_cons_succ])); ((first | (refine anyH_free (i := 27) (v := ?_) rfl (by kernel_rfl) (fun _ _ _ h => h) (Or.inl ⟨rfl, fun w' hS => ?_⟩) hb5 ?_; rotate_left; (skip; go_simp <;> with_reducible rfl)) | (refine anyH_free (i := 27) (v := undef) rfl (by kernel_rfl) (fun _ _ _ h => h) (Or.inr ⟨rfl, rfl⟩) hb5 ?_)); (simp only [Act.put, List.setIfInBounds_toArray, List.set_cons_zero, List.set_cons_succ]))
          refine anyH_done (by kernel_rfl) ?_
          obtain ⟨t1, t2⟩ := its_tail (HM3.out.below hb5)
          have T1 := Lib.hid t1
          have T2 := Lib.hid t2
          have HB5 := Lib.hid (below_then HB3.out hb5)
          have HQ5 := Lib.hid (HQ3.out.below hb5)
          clear hb5 hb0 bx HM3 HB3 HQ3 y0 y1 y2 y3 t1 t2
          go_wp2_with fail
          · go_meet
            case rel => exact ⟨q, HQ5.out, T1.out ‹_›, HB5.out, HN.out.2.2, by have := HN.out.1; simp at this; omega, fun x hx => HN.out.2.1 x (List.mem_cons_of_mem _ hx)⟩
          · go_meet
            case rel => exact ⟨q, HQ5.out, T2.out, HB5.out, HN.out.2.2, by have := HN.out.1; simp at this; omega, fun x hx => HN.out.2.1 x (List.mem_cons_of_mem _ hx)⟩
    case rest =>
      obtain ⟨q', hP⟩ := hcut
      obtain ⟨pm2, cm2, rfl⟩ := hP.m.slice
      have HP := Lib.hid hP
      clear hP HO HLX HX HXM x0 x1 x2 x3 x4
      cases q' with
      | nil =>
        go_wp2_with fail
        refine (first_none (len_any (HP.out.qa.below ((Below.refl _ wc).alloc (Nat.le_refl _) _)))).mono ?_
        rintro e w2 ⟨rfl, hb⟩
        have HB2 := Lib.hid hb
        clear hb
        go_wp2_with fail
        have bx := Lib.hid (Box.new w2 z4 32)
        have hba : Below w2.heap.size w2 (w2.alloc (.cells z4 32)) := (Below.refl _ w2).alloc (Nat.le_refl _) _
        have HB3 := Lib.hid (below_then HB2.out hba)
        clear hba HB2
        obtain ⟨w3, hw3⟩ : ∃ w3, w2.alloc (.cells z4 32) = w3 := ⟨_, rfl⟩
        rw [hw3] at bx HB3 ⊢
        clear hw3
        refine (all_any (HP.out.qa.below HB3.out) (by have := HP.out.n; omega)).mono ?_
        rintro e w4 ⟨va, rs, rfl, hR, hb⟩
        have HB4 := Lib.hid (below_then HB3.out hb)
        have HR4 := Lib.hid hR
        have bx4 := Lib.hid (bx.out.below hb)
        have hs3 := HB3.out.size
        obtain ⟨pa, ca, rfl⟩ := hR.all.slice
        clear hR hb HB3 bx
        have hpm := HP.out.m
        have hqa := HP.out.qa
        go_wp2_with fail
        refine anyH_start 38 (fun w' => Below w4.heap.size w4 w') (by kernel_rfl) rfl ?_
        have hb0 : Below w4.heap.size w4 w4.drew := (Below.refl _ w4).drew
        ((first | (refine anyH_free (i := 0) (v := ?_) rfl (by kernel_rfl) (fun _ _ _ h => h) (Or.inl ⟨rfl, fun w' hS => ?_⟩) hb0 ?_; rotate_left; (skip; go_simp <;> with_reducible rfl)) | (refine anyH_free (i := 0) (v := undef) rfl (by kernel_rfl) (fun _ _ _ h => h) (Or.inr ⟨rfl, rfl⟩) hb0 ?_)); (simp only [Act.put, List.setIfInBounds_toArray, List.set_cons_zero, List.set_cons_succ])); ((first | (refine anyH_free (i := 1) (v := ?_) rfl (by kernel_rfl) (fun _ _ _ h => h) (Or.inl ⟨rfl, fun w' hS => ?_⟩) hb0 ?_; rotate_left; (skip; go_simp <;> with_reducible rfl)) | (refine anyH_free (i := 1) (v := undef) rfl (by kernel_rfl) (fun _ _ _ h => h) (Or.inr ⟨rfl, rfl⟩) hb0 ?_)); (simp only [Act.put, List.setIfInBounds_toArray, List.set_cons_zero, List.set_cons_succ])); ((first | (refine anyH_free (i := 2) (v := ?_) rfl (by kernel_rfl) (fun _ _ _ h => h) (Or.inl ⟨rfl, fun w' hS => ?_⟩) hb0 ?_; rotate_left; (skip; go_simp <;> with_reducible rfl)) | (refine anyH_free (i := 2) (v := undef) rfl (by kernel_rfl) (fun _ _ _ h => h) (Or.inr ⟨rfl, rfl⟩) hb0 ?_)); (simp only [Act.put, List.setIfInBounds_toArray, List.set_cons_zero, List.set_cons_succ])); ((first | (refine anyH_free (i := 3) (v := ?_) rfl (by kernel_rfl) (fun _ _ _ h => h) (Or.inl ⟨rfl, fun w' hS => ?_⟩) hb0 ?_; rotate_left; (skip; go_simp <;> with_reducible rfl)) | (refine anyH_free (i := 3) (v := undef) rfl (by kernel_rfl) (fun _ _ _ h => h) (Or.inr ⟨rfl, rfl⟩) hb0 ?_)); (simp only [Act.put, List.setIfInBounds_toArray, List.set_cons_zero, List.set_cons_succ])); ((first | (refine anyH_free (i := 4) (v := ?_) rfl (by kernel_rfl) (fun _ _ _ h => h) (Or.inl ⟨rfl, fun w' hS => ?_⟩) hb0 ?_; rotate_left; (skip; go_simp <;> with_reducible rfl)) | (refine anyH_free (i := 4) (v := undef) rfl (by kernel_rfl) (fun _ _ _ h => h) (Or.inr ⟨rfl, rfl⟩) hb0 ?_)); (simp only [Act.put, List.setIfInBounds_toArray, List.set_cons_zero, List.set_cons_succ])); ((first | (refine anyH_free (i := 5) (v := ?_) rfl (by kernel_rfl) (fun _ _ _ h => h) (Or.inl ⟨rfl, fun w' hS => ?_⟩) hb0 ?_; rotate_left; (skip; go_simp <;> with_reducible rfl)) | (refine anyH_free (i := 5) (v := undef) rfl (by kernel_rfl) (fun _ _ _ h => h) (Or.inr ⟨rfl, rfl⟩) hb0 ?_)); (simp only [Act.put, List.setIfInBounds_toArray, List.set_cons_zero, List.set_cons_succ])); ((first | (refine anyH_free (i := 6) (v := ?_) rfl (by kernel_rfl) (fun _ _ _ h => h) (Or.inl ⟨rfl, fun w' hS => ?_⟩) hb0 ?_; rotate_left; (skip; go_simp <;> with_reducible rfl)) | (refine anyH_free (i := 6) (v := undef) rfl (by kernel_rfl) (fun _ _ _ h => h) (Or.inr ⟨rfl, rfl⟩) hb0 ?_)); (simp only [Act.put, List.setIfInBounds_toArray, List.set_cons_zero, List.set_cons_succ])); ((first | (refine anyH_free (i := 7) (v := ?_) rfl (by kernel_rfl) (fun _ _ _ h => h) (Or.inl ⟨rfl, fun w' hS => ?_⟩) hb0 ?_; rotate_left; (skip; go_simp <;> with_reducible rfl)) | (refine anyH_free (i := 7) (v := undef) rfl (by kernel_rfl) (fun _ _ _ h => h) (Or.inr ⟨rfl, rfl⟩) hb0 ?_)); (simp only [Act.put, List.setIfInBounds_toArray, List.set_cons_zero, List.set_cons_succ])); ((first | (refine anyH_free (i := 8) (v := ?_) rfl (by kernel_rfl) (fun _ _ _ h => h) (Or.inl ⟨rfl, fun w' hS => ?_⟩) hb0 ?_; rotate_left; (skip; go_simp <;> with_reducible rfl)) | (refine anyH_free (i := 8) (v := undef) rfl (by kernel_rfl) (fun _ _ _ h => h) (Or.inr ⟨rfl, rfl⟩) hb0 ?_)); (simp only [Act.put, List.setIfInBounds_toArray, List.set_cons_zero, List.set_cons_succ])); ((first | (refine anyH_free (i := 9) (v := ?_) rfl (by kernel_rfl) (fun _ _ _ h => h) (Or.inl ⟨rfl, fun w' hS => ?_⟩) hb0 ?_; rotate_left; (skip; go_simp <;> with_reducible rfl)) | (refine anyH_free (i := 9) (v := undef) rfl (by kernel_rfl) (fun _ _ _ h => h) (Or.inr ⟨rfl, rfl⟩) hb0 ?_)); (simp only [Act.put, List.setIfInBounds_toArray, List.set_cons_zero, List.set_cons_succ])); ((first | (refine anyH_free (i := 10) (v := ?_) rfl (by kernel_rfl) (fun _ _ _ h => h) (Or.inl ⟨rfl, fun w' hS => ?_⟩) hb0 ?_; rotate_left; (skip; go_simp <;> with_reducible rfl)) | (refine anyH_free (i := 10) (v := undef) rfl (by kernel_rfl) (fun _ _ _ h => h) (Or.inr ⟨rfl, rfl⟩) hb0 ?_)); (simp only [Act.put, List.setIfInBounds_toArray, List.set_cons_zero, List.set_cons_succ])); ((first | (refine anyH_free (i := 11) (v := ?_) rfl (by kernel_rfl) (fun _ _ _ h => h) (Or.inl ⟨rfl, fun w' hS => ?_⟩) hb0 ?_; rotate_left; (skip; go_simp <;> with_reducible rfl)) | (refine anyH_free (i := 11) (v := undef) rfl (by kernel_rfl) (fun _ _ _ h => h) (Or.inr ⟨rfl, rfl⟩) hb0 ?_)); (simp only [Act.put, List.setIfInBounds_toArray, List.set_cons_zero, List.set_cons_succ])); ((first | (refine anyH_free (i := 12) (v := ?_) rfl (by kernel_rfl) (fun _ _ _ h => h) (Or.inl ⟨rfl, fun w' hS => ?_⟩) hb0 ?_; rotate_left; (skip; go_simp <;> with_reducible rfl)) | (refine anyH_free (i := 12) (v := undef) rfl (by kernel_rfl) (fun _ _ _ h => h) (Or.inr ⟨rfl, rfl⟩) hb0 ?_)); (simp only [Act.put, List.setIfInBounds_toArray, List.set_cons_zero, List.set_cons_succ])); ((first | (refine anyH_free (i := 13) (v := ?_) rfl (by kernel_rfl) (fun _ _ _ h => h) (Or.inl ⟨rfl, fun w' hS => ?_⟩) hb0 ?_; rotate_left; (skip; go_simp <;> with_reducible rfl)) | (refine anyH_free (i := 13) (v := undef) rfl (by kernel_rfl) (fun _ _ _ h => h) (Or.inr ⟨rfl, rfl⟩) hb0 ?_)); (simp only [Act.put, List.setIfInBounds_toArray, List.set_cons_zero, List.set_cons_succ])); ((first | (refine anyH_free (i := 14) (v := ?_) rfl (by kernel_rfl) (fun _ _ _ h => h) (Or.inl ⟨rfl, fun w' hS => ?_⟩) hb0 ?_; rotate_left; (skip; go_simp <;> with_reducible rfl)) | (refine anyH_free (i := 14) (v := undef) rfl (by kernel_rfl) (fun _ _ _ h => h) (Or.inr ⟨rfl, rfl⟩) hb0 ?_)); (simp only [Act.put, List.setIfInBounds_toArray, List.set_cons_zero, List.set_cons_succ])); ((first | (refine anyH_free (i := 15) (v := ?_) rfl (by kernel_rfl) (fun _ _ _ h => h) (Or.inl ⟨rfl, fun w' hS => ?_⟩) hb0 ?_; rotate_left; (skip; go_simp <;> with_reducible rfl)) | (refine anyH_free (i := 15) (v := undef) rfl (by kernel_rfl) (fun _ _ _ h => h) (Or.inr ⟨rfl, rfl⟩) hb0 ?_)); (simp only [Act.put, List.setIfInBounds_toArray, List.set_cons_zero, List.set_cons_succ])); ((first | (refine anyH_free (i := 16) (v := ?_) rfl (by kernel_rfl) (fun _ _ _ h => h) (Or.inl ⟨rfl, fun w' hS => ?_⟩) hb0 ?_; rotate_left; (skip; go_simp <;> with_reducible rfl)) | (refine anyH_free (i := 16) (v := undef) rfl (by kernel_rfl) (fun _ _ _ h => h) (Or.inr ⟨rfl, rfl⟩) hb0 ?_)); (simp only [Act.put, List.setIfInBounds_toArray, List.set_cons_zero, List.set_cons_succ])); ((first | (refine anyH_free (i := 17) (v := ?_) rfl (by kernel_rfl) (fun _ _ _ h => h) (Or.inl ⟨rfl, fun w' hS => ?_⟩) hb0 ?_; rotate_left; (skip; go_simp <;> with_reducible rfl)) | (refine anyH_free (i := 17) (v := undef) rfl (by kernel_rfl) (fun _ _ _ h => h) (Or.inr ⟨rfl, rfl⟩) hb0 ?_)); (simp only [Act.put, List.setIfInBounds_toArray, List.set_cons_zero, List.set_cons_succ])); ((first | (refine anyH_free (i := 18) (v := ?_) rfl (by kernel_rfl) (fun _ _ _ h => h) (Or.inl ⟨rfl, fun w' hS => ?_⟩) hb0 ?_; rotate_left; (skip; go_simp <;> with_reducible rfl)) | (refine anyH_free (i := 18) (v := undef) rfl (by kernel_rfl) (fun _ _ _ h => h) (Or.inr ⟨rfl, rfl⟩) hb0 ?_)); (simp only [Act.put, List.setIfInBounds_toArray, List.set_cons_zero, List.set_cons_succ])); ((first | (refine anyH_free (i := 20) (v := ?_) rfl (by kernel_rfl) (fun _ _ _ h => h) (Or.inl ⟨rfl, fun w' hS => ?_⟩) hb0 ?_; rotate_left; (skip; go_simp <;> with_reducible rfl)) | (refine anyH_free (i := 20) (v := undef) rfl (by kernel_rfl) (fun _ _ _ h => h) (Or.inr ⟨rfl, rfl⟩) hb0 ?_)); (simp only [Act.put, List.setIfInBounds_toArray, List.set_cons_zero, List.set_cons_succ])); ((first | (refine anyH_free (i := 21) (v := ?_) rfl (by kernel_rfl) (fun _ _ _ h => h) (Or.inl ⟨rfl, fun w' hS => ?_⟩) hb0 ?_; rotate_left; (skip; go_simp <;> with_reducible rfl)) | (refine anyH_free (i := 21) (v := undef) rfl (by kernel_rfl) (fun _ _ _ h => h) (Or.inr ⟨rfl, rfl⟩) hb0 ?_)); (simp only [Act.put, List.setIfInBounds_toArray, List.set_cons_zero, List.set_cons_succ]))
        refine anyH_sole (i := 19) rfl (by kernel_rfl) rfl (fun K hK => ?_)
        go_simp
        refine (len_any (HP.out.qa.below (below_then HB4.out hb0))).mono ?_
        rintro e w7 ⟨rfl, rfl⟩
        refine hK _ _ hb0 ?_
        clear hK K
        ((first | (refine anyH_free (i := 22) (v := ?_) rfl (by kernel_rfl) (fun _ _ _ h => h) (Or.inl ⟨rfl, fun w' hS => ?_⟩) hb0 ?_; rotate_left; (skip; go_simp <;> with_reducible rfl)) | (refine anyH_free (i := 22) (v := undef) rfl (by kernel_rfl) (fun _ _ _ h => h) (Or.inr ⟨rfl, rfl⟩) hb0 ?_)); (simp only [Act.put, List.setIfInBounds_toArray, List.set_cons_zero, List.set_cons_succ])); ((first | (refine anyH_free (i := 23) (v := ?_) rfl (by kernel_rfl) (fun _ _ _ h => h) (Or.inl ⟨rfl, fun w' hS => ?_⟩) hb0 ?_; rotate_left; (skip; go_simp <;> with_reducible rfl)) | (refine anyH_free (i := 23) (v := undef) rfl (by kernel_rfl) (fun _ _ _ h => h) (Or.inr ⟨rfl, rfl⟩) hb0 ?_)); (simp only [Act.put, List.setIfInBounds_toArray, List.set_cons_zero, List.set_cons_succ])); ((first | (refine anyH_free (i := 24) (v := ?_) rfl (by kernel_rfl) (fun _ _ _ h => h) (Or.inl ⟨rfl, fun w' hS => ?_⟩) hb0 ?_; rotate_left; (skip; go_simp <;> with_reducible rfl)) | (refine anyH_free (i := 24) (v := undef) rfl (by kernel_rfl) (fun _ _ _ h => h) (Or.inr ⟨rfl, rfl⟩) hb0 ?_)); (simp only [Act.put, List.setIfInBounds_toArray, List.set_cons_zero, List.set_cons_succ])); ((first | (refine anyH_free (i := 25) (v := ?_) rfl (by kernel_rfl) (fun _ _ _ h => h) (Or.inl ⟨rfl, fun w' hS => ?_⟩) hb0 ?_; rotate_left; (skip; go_simp <;> with_reducible rfl)) | (refine anyH_free (i := 25) (v := undef) rfl (by kernel_rfl) (fun _ _ _ h => h) (Or.inr ⟨rfl, rfl⟩) hb0 ?_)); (simp only [Act.put, List.setIfInBounds_toArray, List.set_cons_zero, List.set_cons_succ])); ((first | (refine anyH_free (i := 27) (v := ?_) rfl (by kernel_rfl) (fun _ _ _ h => h) (Or.inl ⟨rfl, fun w' hS => ?_⟩) hb0 ?_; rotate_left; (skip; go_simp <;> with_reducible rfl)) | (refine anyH_free (i := 27) (v := undef) rfl (by kernel_rfl) (fun _ _ _ h => h) (Or.inr ⟨rfl, rfl⟩) hb0 ?_)); (simp only [Act.put, List.setIfInBounds_toArray, List.set_cons_zero, List.set_cons_succ]))
        refine anyH_sole (i := 26) rfl (by kernel_rfl) rfl (fun K hK => ?_)
        go_simp
        refine (cost_any (HP.out.qa.below (below_then HB4.out hb0)) (by have := HP.out.n; omega) HP.out.c).mono ?_
        rintro e w8 ⟨rfl, hb⟩
        have hb8 := below_then hb0 hb
        refine hK _ _ hb8 ?_
        clear hK K hb
        refine anyH_sole (i := 28) rfl (by kernel_rfl) rfl (fun K hK => ?_)
        go_simp
        refine (refCost_any (HP.out.m.below (below_then HB4.out hb8)) (by have := HP.out.n; omega) HP.out.c).mono ?_
        rintro e w9 ⟨rfl, rfl⟩
        refine hK _ _ hb8 ?_
        clear hK K
        ((first | (refine anyH_free (i := 29) (v := ?_) rfl (by kernel_rfl) (fun _ _ _ h => h) (Or.inl ⟨rfl, fun w' hS => ?_⟩) hb8 ?_; rotate_left; (skip; go_simp <;> with_reducible rfl)) | (refine anyH_free (i := 29) (v := undef) rfl (by kernel_rfl) (fun _ _ _ h => h) (Or.inr ⟨rfl, rfl⟩) hb8 ?_)); (simp only [Act.put, List.setIfInBounds_toArray, List.set_cons_zero, List.set_cons_succ])); ((first | (refine anyH_free (i := 30) (v := ?_) rfl (by kernel_rfl) (fun _ _ _ h => h) (Or.inl ⟨rfl, fun w' hS => ?_⟩) hb8 ?_; rotate_left; (skip; go_simp <;> with_reducible rfl)) | (refine anyH_free (i := 30) (v := undef) rfl (by kernel_rfl) (fun _ _ _ h => h) (Or.inr ⟨rfl, rfl⟩) hb8 ?_)); (simp only [Act.put, List.setIfInBounds_toArray, List.set_cons_zero, List.set_cons_succ])); ((first | (refine anyH_free (i := 31) (v := ?_) rfl (by kernel_rfl) (fun _ _ _ h => h) (Or.inl ⟨rfl, fun w' hS => ?_⟩) hb8 ?_; rotate_left; (skip; go_simp <;> with_reducible rfl)) | (refine anyH_free (i := 31) (v := undef) rfl (by kernel_rfl) (fun _ _ _ h => h) (Or.inr ⟨rfl, rfl⟩) hb8 ?_)); (simp only [Act.put, List.setIfInBounds_toArray, List.set_cons_zero, List.set_cons_succ])); ((first | (refine anyH_free (i := 32) (v := ?_) rfl (by kernel_rfl) (fun _ _ _ h => h) (Or.inl ⟨rfl, fun w' hS => ?_⟩) hb8 ?_; rotate_left; (skip; go_simp <;> with_reducible rfl)) | (refine anyH_free (i := 32) (v := undef) rfl (by kernel_rfl) (fun _ _ _ h => h) (Or.inr ⟨rfl, rfl⟩) hb8 ?_)); (simp only [Act.put, List.setIfInBounds_toArray, List.set_cons_zero, List.set_cons_succ])); ((first | (refine anyH_free (i := 34) (v := ?_) rfl (by kernel_rfl) (fun _ _ _ h => h) (Or.inl ⟨rfl, fun w' hS => ?_⟩) hb8 ?_; rotate_left; (skip; go_simp <;> with_reducible rfl)) | (refine anyH_free (i := 34) (v := undef) rfl (by kernel_rfl) (fun _ _ _ h => h) (Or.inr ⟨rfl, rfl⟩) hb8 ?_)); (simp only [Act.put, List.setIfInBounds_toArray, List.set_cons_zero, List.set_cons_succ]))
        refine anyH_sole (i := 33) rfl (by kernel_rfl) rfl (fun K hK => ?_)
        go_simp
        refine (Twins_any (HR4.out.all.below hb8) (by have := HP.out.n; omega)).mono ?_
        rintro e w9 ⟨vt, rt, rfl, hT, hb⟩
        have hb9 := below_then hb8 hb
        refine hK _ _ hb9 ?_
        clear hK K hb
        refine anyH_sole (i := 35) rfl (by kernel_rfl) rfl (fun K hK => ?_)
        go_simp
        refine (sameAll_any hT.all (HP.out.m.below (below_then HB4.out hb9)) (by have := HP.out.n; omega)).mono ?_
        rintro e wa ⟨rfl, hb⟩
        have hba := below_then hb9 hb
        refine hK _ _ hba ?_
        clear hK K hb hT hb9
        ((first | (refine anyH_free (i := 36) (v := ?_) rfl (by kernel_rfl) (fun _ _ _ h => h) (Or.inl ⟨rfl, fun w' hS => ?_⟩) hba ?_; rotate_left; (skip; go_simp <;> with_reducible rfl)) | (refine anyH_free (i := 36) (v := undef) rfl (by kernel_rfl) (fun _ _ _ h => h) (Or.inr ⟨rfl, rfl⟩) hba ?_)); (simp only [Act.put, List.setIfInBounds_toArray, List.set_cons_zero, List.set_cons_succ])); ((first | (refine anyH_free (i := 37) (v := ?_) rfl (by kernel_rfl) (fun _ _ _ h => h) (Or.inl ⟨rfl, fun w' hS => ?_⟩) hba ?_; rotate_left; (skip; go_simp <;> with_reducible rfl)) | (refine anyH_free (i := 37) (v := undef) rfl (by kernel_rfl) (fun _ _ _ h => h) (Or.inr ⟨rfl, rfl⟩) hba ?_)); (simp only [Act.put, List.setIfInBounds_toArray, List.set_cons_zero, List.set_cons_succ]))
        refine anyH_done (by kernel_rfl) ?_
        have HBA := Lib.hid (below_then HB4.out hba)
        have HRA := Lib.hid (HR4.out.below hba)
        have bxA := Lib.hid (bx4.out.below hba)

        have cA := bxA.out.rd.1
        clear hba hb8 hb0 bx4 HB4 HR4 hpm hqa
        go_wp2_with fail
        refine (spoil_nil).mono ?_
        rintro e wb ⟨rfl, hkb, hsb⟩
        have HLP2 : Hid (LP wc (.slice pa ([] : List It).length ca) ([] : List It) rs wb) := Lib.hid ((lp_start HBA.out hs3 HRA.out).spoil hkb (fun k e => absurd e.1 (Nat.lt_irrefl 0)) hsb)
        have HRL := Lib.hid HRA.out.len
        clear hkb hsb cA bxA HBA HRA
        go_wp2_with fail
        go_loopw [15] (fun i wk => ∃ j : Nat, i = .int .i64 j ∧ j ≤ ([] : List It).length ∧ LP wc (.slice pa ([] : List It).length ca) ([] : List It) rs wk) (fun i _ => ([] : List It).length - (intOf i).toNat)
        · exact ⟨0, rfl, by omega, HLP2.out⟩
        obtain ⟨j, rfl, hj, hL⟩ := hrel
        have HLJ := Lib.hid hL
        clear hL
        obtain rfl : j = 0 := by simp at hj; exact hj
        go_wp2_with fail
        exact ⟨⟨k + 1, [], by simp, by omega, HP.out.below HLJ.out.b⟩, by simp [intOf]; omega⟩
      | cons y q =>
        go_wp2_with fail
        refine (first_some HP.out.qa).mono ?_
        rintro e w2 ⟨l2, rfl, hl2, hb⟩
        obtain ⟨p2, c2, rfl⟩ := hl2.lb.slice
        have HB2 := Lib.hid hb
        have HX2 := Lib.hid hl2
        clear hb hl2
        go_wp2_with fail
        have bx := Lib.hid (Box.new w2 #[.slice p2 y.ls.length c2, .int .i64 y.at_, .int .i64 y.vl, .int .i64 y.cost] 32)
        have hba : Below w2.heap.size w2 (w2.alloc (.cells #[.slice p2 y.ls.length c2, .int .i64 y.at_, .int .i64 y.vl, .int .i64 y.cost] 32)) := (Below.refl _ w2).alloc (Nat.le_refl _) _
        have HB3 := Lib.hid (below_then HB2.out hba)
        have HX3 := Lib.hid (HX2.out.below hba)
        clear hba HB2 HX2
        obtain ⟨w3, hw3⟩ : ∃ w3, w2.alloc (.cells #[.slice p2 y.ls.length c2, .int .i64 y.at_, .int .i64 y.vl, .int .i64 y.cost] 32) = w3 := ⟨_, rfl⟩
        rw [hw3] at bx HB3 HX3 ⊢
        clear hw3
        refine (all_any (HP.out.qa.below HB3.out) (by have := HP.out.n; omega)).mono ?_
        rintro e w4 ⟨va, rs, rfl, hR, hb⟩
        have HB4 := Lib.hid (below_then HB3.out hb)
        have HR4 := Lib.hid hR
        have bx4 := Lib.hid (bx.out.below hb)
        have hs3 := HB3.out.size
        have HX4 := Lib.hid (HX3.out.below hb)
        have HXO : Hid (0 < y.ls.length → ∀ k, (Value.slice p2 y.ls.length c2).ownBlock = some k → wc.heap.size ≤ k ∧ k < w3.heap.size) := Lib.hid (fun hp k e => ⟨(HX3.out.lb.own hp e).2, (HX3.out.lb.own hp e).1⟩)
        obtain ⟨pa, ca, rfl⟩ := hR.all.slice
        clear hR hb HB3 bx HX3
        have hpm := HP.out.m
        have hqa := HP.out.qa
        go_wp2_with fail
        refine anyH_start 38 (fun w' => Below w4.heap.size w4 w') (by kernel_rfl) rfl ?_
        have hb0 : Below w4.heap.size w4 w4.drew := (Below.refl _ w4).drew
        have hcm2 := cap_le HP.out.m
        have hcm1 : q.length + 1 ≤ cm2 := hcm2.1
        have hpos : (0 : Int) < (q.length : Int) + 1 := by omega
        obtain ⟨am, lm, rfl, hlm, y0, y1, y2, y3⟩ := (HP.out.m.below HB4.out).at (i := 0) (x := y) rfl
        rw [Nat.zero_mul, Addr.add_zero'] at y0 y1 y2 y3
        have HLM := Lib.hid hlm
        clear hlm
        ((first | (refine anyH_free (i := 0) (v := ?_) rfl (by kernel_rfl) (fun _ _ _ h => h) (Or.inl ⟨rfl, fun w' hS => ?_⟩) hb0 ?_; rotate_left; (have d1 := (bx4.out.below hS).rd.1; have y0 := cell_below y0 hS; have y1 := cell_below y1 hS; have y2 := cell_below y2 hS; have y3 := cell_below y3 hS; go_simp <;> with_reducible rfl)) | (refine anyH_free (i := 0) (v := undef) rfl (by kernel_rfl) (fun _ _ _ h => h) (Or.inr ⟨rfl, rfl⟩) hb0 ?_)); (simp only [Act.put, List.setIfInBounds_toArray, List.set_cons_zero, List.set_cons_succ])); ((first | (refine anyH_free (i := 1) (v := ?_) rfl (by kernel_rfl) (fun _ _ _ h => h) (Or.inl ⟨rfl, fun w' hS => ?_⟩) hb0 ?_; rotate_left; (have d1 := (bx4.out.below hS).rd.1; have y0 := cell_below y0 hS; have y1 := cell_below y1 hS; have y2 := cell_below y2 hS; have y3 := cell_below y3 hS; go_simp <;> with_reducible rfl)) | (refine anyH_free (i := 1) (v := undef) rfl (by kernel_rfl) (fun _ _ _ h => h) (Or.inr ⟨rfl, rfl⟩) hb0 ?_)); (simp only [Act.put, List.setIfInBounds_toArray, List.set_cons_zero, List.set_cons_succ])); ((first | (refine anyH_free (i := 2) (v := ?_) rfl (by kernel_rfl) (fun _ _ _ h => h) (Or.inl ⟨rfl, fun w' hS => ?_⟩) hb0 ?_; rotate_left; (have d1 := (bx4.out.below hS).rd.1; have y0 := cell_below y0 hS; have y1 := cell_below y1 hS; have y2 := cell_below y2 hS; have y3 := cell_below y3 hS; go_simp <;> with_reducible rfl)) | (refine anyH_free (i := 2) (v := undef) rfl (by kernel_rfl) (fun _ _ _ h => h) (Or.inr ⟨rfl, rfl⟩) hb0 ?_)); (simp only [Act.put, List.setIfInBounds_toArray, List.set_cons_zero, List.set_cons_succ])); ((first | (refine anyH_free (i := 3) (v := ?_) rfl (by kernel_rfl) (fun _ _ _ h => h) (Or.inl ⟨rfl, fun w' hS => ?_⟩) hb0 ?_; rotate_left; (have d1 := (bx4.out.below hS).rd.1; have y0 := cell_below y0 hS; have y1 := cell_below y1 hS; have y2 := cell_below y2 hS; have y3 := cell_below y3 hS; go_simp <;> with_reducible rfl)) | (refine anyH_free (i := 3) (v := undef) rfl (by kernel_rfl) (fun _ _ _ h => h) (Or.inr ⟨rfl, rfl⟩) hb0 ?_)); (simp only [Act.put, List.setIfInBounds_toArray, List.set_cons_zero, List.set_cons_succ])); ((first | (refine anyH_free (i := 4) (v := ?_) rfl (by kernel_rfl) (fun _ _ _ h => h) (Or.inl ⟨rfl, fun w' hS => ?_⟩) hb0 ?_; rotate_left; (have d1 := (bx4.out.below hS).rd.1; have y0 := cell_below y0 hS; have y1 := cell_below y1 hS; have y2 := cell_below y2 hS; have y3 := cell_below y3 hS; go_simp <;> with_reducible rfl)) | (refine anyH_free (i := 4) (v := undef) rfl (by kernel_rfl) (fun _ _ _ h => h) (Or.inr ⟨rfl, rfl⟩) hb0 ?_)); (simp only [Act.put, List.setIfInBounds_toArray, List.set_cons_zero, List.set_cons_succ])); ((first | (refine anyH_free (i := 5) (v := ?_) rfl (by kernel_rfl) (fun _ _ _ h => h) (Or.inl ⟨rfl, fun w' hS => ?_⟩) hb0 ?_; rotate_left; (have d1 := (bx4.out.below hS).rd.1; have y0 := cell_below y0 hS; have y1 := cell_below y1 hS; have y2 := cell_below y2 hS; have y3 := cell_below y3 hS; go_simp <;> with_reducible rfl)) | (refine anyH_free (i := 5) (v := undef) rfl (by kernel_rfl) (fun _ _ _ h => h) (Or.inr ⟨rfl, rfl⟩) hb0 ?_)); (simp only [Act.put, List.setIfInBounds_toArray, List.set_cons_zero, List.set_cons_succ])); ((first | (refine anyH_free (i := 6) (v := ?_) rfl (by kernel_rfl) (fun _ _ _ h => h) (Or.inl ⟨rfl, fun w' hS => ?_⟩) hb0 ?_; rotate_left; (have d1 := (bx4.out.below hS).rd.1; have y0 := cell_below y0 hS; have y1 := cell_below y1 hS; have y2 := cell_below y2 hS; have y3 := cell_below y3 hS; go_simp <;> with_reducible rfl)) | (refine anyH_free (i := 6) (v := undef) rfl (by kernel_rfl) (fun _ _ _ h => h) (Or.inr ⟨rfl, rfl⟩) hb0 ?_)); (simp only [Act.put, List.setIfInBounds_toArray, List.set_cons_zero, List.set_cons_succ])); ((first | (refine anyH_free (i := 7) (v := ?_) rfl (by kernel_rfl) (fun _ _ _ h => h) (Or.inl ⟨rfl, fun w' hS => ?_⟩) hb0 ?_; rotate_left; (have d1 := (bx4.out.below hS).rd.1; have y0 := cell_below y0 hS; have y1 := cell_below y1 hS; have y2 := cell_below y2 hS; have y3 := cell_below y3 hS; go_simp <;> with_reducible rfl)) | (refine anyH_free (i := 7) (v := undef) rfl (by kernel_rfl) (fun _ _ _ h => h) (Or.inr ⟨rfl, rfl⟩) hb0 ?_)); (simp only [Act.put, List.setIfInBounds_toArray, List.set_cons_zero, List.set_cons_succ])); ((first | (refine anyH_free (i := 8) (v := ?_) rfl (by kernel_rfl) (fun _ _ _ h => h) (Or.inl ⟨rfl, fun w' hS => ?_⟩) hb0 ?_; rotate_left; (have d1 := (bx4.out.below hS).rd.1; have y0 := cell_below y0 hS; have y1 := cell_below y1 hS; have y2 := cell_below y2 hS; have y3 := cell_below y3 hS; go_simp <;> with_reducible rfl)) | (refine anyH_free (i := 8) (v := undef) rfl (by kernel_rfl) (fun _ _ _ h => h) (Or.inr ⟨rfl, rfl⟩) hb0 ?_)); (simp only [Act.put, List.setIfInBounds_toArray, List.set_cons_zero, List.set_cons_succ])); ((first | (refine anyH_free (i := 10) (v := ?_) rfl (by kernel_rfl) (fun _ _ _ h => h) (Or.inl ⟨rfl, fun w' hS => ?_⟩) hb0 ?_; rotate_left; (have d1 := (bx4.out.below hS).rd.1; have y0 := cell_below y0 hS; have y1 := cell_below y1 hS; have y2 := cell_below y2 hS; have y3 := cell_below y3 hS; go_simp <;> with_reducible rfl)) | (refine anyH_free (i := 10) (v := undef) rfl (by kernel_rfl) (fun _ _ _ h => h) (Or.inr ⟨rfl, rfl⟩) hb0 ?_)); (simp only [Act.put, List.setIfInBounds_toArray, List.set_cons_zero, List.set_cons_succ])); ((first | (refine anyH_free (i := 11) (v := ?_) rfl (by kernel_rfl) (fun _ _ _ h => h) (Or.inl ⟨rfl, fun w' hS => ?_⟩) hb0 ?_; rotate_left; (have d1 := (bx4.out.below hS).rd.1; have y0 := cell_below y0 hS; have y1 := cell_below y1 hS; have y2 := cell_below y2 hS; have y3 := cell_below y3 hS; go_simp <;> with_reducible rfl)) | (refine anyH_free (i := 11) (v := undef) rfl (by kernel_rfl) (fun _ _ _ h => h) (Or.inr ⟨rfl, rfl⟩) hb0 ?_)); (simp only [Act.put, List.setIfInBounds_toArray, List.set_cons_zero, List.set_cons_succ])); ((first | (refine anyH_free (i := 12) (v := ?_) rfl (by kernel_rfl) (fun _ _ _ h => h) (Or.inl ⟨rfl, fun w' hS => ?_⟩) hb0 ?_; rotate_left; (have d1 := (bx4.out.below hS).rd.1; have y0 := cell_below y0 hS; have y1 := cell_below y1 hS; have y2 := cell_below y2 hS; have y3 := cell_below y3 hS; go_simp <;> with_reducible rfl)) | (refine anyH_free (i := 12) (v := undef) rfl (by kernel_rfl) (fun _ _ _ h => h) (Or.inr ⟨rfl, rfl⟩) hb0 ?_)); (simp only [Act.put, List.setIfInBounds_toArray, List.set_cons_zero, List.set_cons_succ]))
        refine anyH_sole (i := 9) rfl (by kernel_rfl) rfl (fun K hK => ?_)
        go_simp
        refine (Twin_any (HX4.out.lb.below hb0)).mono ?_
        rintro e w5 ⟨l5, rfl, hl5, hb⟩
        have hb5 := below_then hb0 hb
        refine hK _ _ hb5 ?_
        clear hK K hb
        refine anyH_sole (i := 13) rfl (by kernel_rfl) rfl (fun K hK => ?_)
        go_simp
        refine (same_any hl5.lb (HLM.out.below hb5)).mono ?_
        rintro e w6 ⟨rfl, hb⟩
        have hb6 := below_then hb5 hb
        refine hK _ _ hb6 ?_
        clear hK K hb hb5 hl5
        ((first | (refine anyH_free (i := 14) (v := ?_) rfl (by kernel_rfl) (fun _ _ _ h => h) (Or.inl ⟨rfl, fun w' hS => ?_⟩) hb6 ?_; rotate_left; (skip; go_simp <;> with_reducible rfl)) | (refine anyH_free (i := 14) (v := undef) rfl (by kernel_rfl) (fun _ _ _ h => h) (Or.inr ⟨rfl, rfl⟩) hb6 ?_)); (simp only [Act.put, List.setIfInBounds_toArray, List.set_cons_zero, List.set_cons_succ])); ((first | (refine anyH_free (i := 15) (v := ?_) rfl (by kernel_rfl) (fun _ _ _ h => h) (Or.inl ⟨rfl, fun w' hS => ?_⟩) hb6 ?_; rotate_left; (skip; go_simp <;> with_reducible rfl)) | (refine anyH_free (i := 15) (v := undef) rfl (by kernel_rfl) (fun _ _ _ h => h) (Or.inr ⟨rfl, rfl⟩) hb6 ?_)); (simp only [Act.put, List.setIfInBounds_toArray, List.set_cons_zero, List.set_cons_succ])); ((first | (refine anyH_free (i := 16) (v := ?_) rfl (by kernel_rfl) (fun _ _ _ h => h) (Or.inl ⟨rfl, fun w' hS => ?_⟩) hb6 ?_; rotate_left; (skip; go_simp <;> with_reducible rfl)) | (refine anyH_free (i := 16) (v := undef) rfl (by kernel_rfl) (fun _ _ _ h => h) (Or.inr ⟨rfl, rfl⟩) hb6 ?_)); (simp only [Act.put, List.setIfInBounds_toArray, List.set_cons_zero, List.set_cons_succ])); ((first | (refine anyH_free (i := 17) (v := ?_) rfl (by kernel_rfl) (fun _ _ _ h => h) (Or.inl ⟨rfl, fun w' hS => ?_⟩) hb6 ?_; rotate_left; (skip; go_simp <;> with_reducible rfl)) | (refine anyH_free (i := 17) (v := undef) rfl (by kernel_rfl) (fun _ _ _ h => h) (Or.inr ⟨rfl, rfl⟩) hb6 ?_)); (simp only [Act.put, List.setIfInBounds_toArray, List.set_cons_zero, List.set_cons_succ])); ((first | (refine anyH_free (i := 18) (v := ?_) rfl (by kernel_rfl) (fun _ _ _ h => h) (Or.inl ⟨rfl, fun w' hS => ?_⟩) hb6 ?_; rotate_left; (skip; go_simp <;> with_reducible rfl)) | (refine anyH_free (i := 18) (v := undef) rfl (by kernel_rfl) (fun _ _ _ h => h) (Or.inr ⟨rfl, rfl⟩) hb6 ?_)); (simp only [Act.put, List.setIfInBounds_toArray, List.set_cons_zero, List.set_cons_succ])); ((first | (refine anyH_free (i := 20) (v := ?_) rfl (by kernel_rfl) (fun _ _ _ h => h) (Or.inl ⟨rfl, fun w' hS => ?_⟩) hb6 ?_; rotate_left; (skip; go_simp <;> with_reducible rfl)) | (refine anyH_free (i := 20) (v := undef) rfl (by kernel_rfl) (fun _ _ _ h => h) (Or.inr ⟨rfl, rfl⟩) hb6 ?_)); (simp only [Act.put, List.setIfInBounds_toArray, List.set_cons_zero, List.set_cons_succ])); ((first | (refine anyH_free (i := 21) (v := ?_) rfl (by kernel_rfl) (fun _ _ _ h => h) (Or.inl ⟨rfl, fun w' hS => ?_⟩) hb6 ?_; rotate_left; (skip; go_simp <;> with_reducible rfl)) | (refine anyH_free (i := 21) (v := undef) rfl (by kernel_rfl) (fun _ _ _ h => h) (Or.inr ⟨rfl, rfl⟩) hb6 ?_)); (simp only [Act.put, List.setIfInBounds_toArray, List.set_cons_zero, List.set_cons_succ]))
        refine anyH_sole (i := 19) rfl (by kernel_rfl) rfl (fun K hK => ?_)
        go_simp
        refine (len_any (HP.out.qa.below (below_then HB4.out hb6))).mono ?_
        rintro e w7 ⟨rfl, rfl⟩
        refine hK _ _ hb6 ?_
        clear hK K
        ((first | (refine anyH_free (i := 22) (v := ?_) rfl (by kernel_rfl) (fun _ _ _ h => h) (Or.inl ⟨rfl, fun w' hS => ?_⟩) hb6 ?_; rotate_left; (skip; go_simp <;> with_reducible rfl)) | (refine anyH_free (i := 22) (v := undef) rfl (by kernel_rfl) (fun _ _ _ h => h) (Or.inr ⟨rfl, rfl⟩) hb6 ?_)); (simp only [Act.put, List.setIfInBounds_toArray, List.set_cons_zero, List.set_cons_succ])); ((first | (refine anyH_free (i := 23) (v := ?_) rfl (by kernel_rfl) (fun _ _ _ h => h) (Or.inl ⟨rfl, fun w' hS => ?_⟩) hb6 ?_; rotate_left; (skip; go_simp <;> with_reducible rfl)) | (refine anyH_free (i := 23) (v := undef) rfl (by kernel_rfl) (fun _ _ _ h => h) (Or.inr ⟨rfl, rfl⟩) hb6 ?_)); (simp only [Act.put, List.setIfInBounds_toArray, List.set_cons_zero, List.set_cons_succ])); ((first | (refine anyH_free (i := 24) (v := ?_) rfl (by kernel_rfl) (fun _ _ _ h => h) (Or.inl ⟨rfl, fun w' hS => ?_⟩) hb6 ?_; rotate_left; (skip; go_simp <;> with_reducible rfl)) | (refine anyH_free (i := 24) (v := undef) rfl (by kernel_rfl) (fun _ _ _ h => h) (Or.inr ⟨rfl, rfl⟩) hb6 ?_)); (simp only [Act.put, List.setIfInBounds_toArray, List.set_cons_zero, List.set_cons_succ])); ((first | (refine anyH_free (i := 25) (v := ?_) rfl (by kernel_rfl) (fun _ _ _ h => h) (Or.inl ⟨rfl, fun w' hS => ?_⟩) hb6 ?_; rotate_left; (skip; go_simp <;> with_reducible rfl)) | (refine anyH_free (i := 25) (v := undef) rfl (by kernel_rfl) (fun _ _ _ h => h) (Or.inr ⟨rfl, rfl⟩) hb6 ?_)); (simp only [Act.put, List.setIfInBounds_toArray, List.set_cons_zero, List.set_cons_succ])); ((first | (refine anyH_free (i := 27) (v := ?_) rfl (by kernel_rfl) (fun _ _ _ h => h) (Or.inl ⟨rfl, fun w' hS => ?_⟩) hb6 ?_; rotate_left; (skip; go_simp <;> with_reducible rfl)) | (refine anyH_free (i := 27) (v := undef) rfl (by kernel_rfl) (fun _ _ _ h => h) (Or.inr ⟨rfl, rfl⟩) hb6 ?_)); (simp only [Act.put, List.setIfInBounds_toArray, List.set_cons_zero, List.set_cons_succ]))
        refine anyH_sole (i := 26) rfl (by kernel_rfl) rfl (fun K hK => ?_)
        go_simp
        refine (cost_any (HP.out.qa.below (below_then HB4.out hb6)) (by have := HP.out.n; omega) HP.out.c).mono ?_
        rintro e w8 ⟨rfl, hb⟩
        have hb8 := below_then hb6 hb
        refine hK _ _ hb8 ?_
        clear hK K hb
        refine anyH_sole (i := 28) rfl (by kernel_rfl) rfl (fun K hK => ?_)
        go_simp
        refine (refCost_any (HP.out.m.below (below_then HB4.out hb8)) (by have := HP.out.n; omega) HP.out.c).mono ?_
        rintro e w9 ⟨rfl, rfl⟩
        refine hK _ _ hb8 ?_
        clear hK K
        ((first | (refine anyH_free (i := 29) (v := ?_) rfl (by kernel_rfl) (fun _ _ _ h => h) (Or.inl ⟨rfl, fun w' hS => ?_⟩) hb8 ?_; rotate_left; (skip; go_simp <;> with_reducible rfl)) | (refine anyH_free (i := 29) (v := undef) rfl (by kernel_rfl) (fun _ _ _ h => h) (Or.inr ⟨rfl, rfl⟩) hb8 ?_)); (simp only [Act.put, List.setIfInBounds_toArray, List.set_cons_zero, List.set_cons_succ])); ((first | (refine anyH_free (i := 30) (v := ?_) rfl (by kernel_rfl) (fun _ _ _ h => h) (Or.inl ⟨rfl, fun w' hS => ?_⟩) hb8 ?_; rotate_left; (skip; go_simp <;> with_reducible rfl)) | (refine anyH_free (i := 30) (v := undef) rfl (by kernel_rfl) (fun _ _ _ h => h) (Or.inr ⟨rfl, rfl⟩) hb8 ?_)); (simp only [Act.put, List.setIfInBounds_toArray, List.set_cons_zero, List.set_cons_succ])); ((first | (refine anyH_free (i := 31) (v := ?_) rfl (by kernel_rfl) (fun _ _ _ h => h) (Or.inl ⟨rfl, fun w' hS => ?_⟩) hb8 ?_; rotate_left; (skip; go_simp <;> with_reducible rfl)) | (refine anyH_free (i := 31) (v := undef) rfl (by kernel_rfl) (fun _ _ _ h => h) (Or.inr ⟨rfl, rfl⟩) hb8 ?_)); (simp only [Act.put, List.setIfInBounds_toArray, List.set_cons_zero, List.set_cons_succ])); ((first | (refine anyH_free (i := 32) (v := ?_) rfl (by kernel_rfl) (fun _ _ _ h => h) (Or.inl ⟨rfl, fun w' hS => ?_⟩) hb8 ?_; rotate_left; (skip; go_simp <;> with_reducible rfl)) | (refine anyH_free (i := 32) (v := undef) rfl (by kernel_rfl) (fun _ _ _ h => h) (Or.inr ⟨rfl, rfl⟩) hb8 ?_)); (simp only [Act.put, List.setIfInBounds_toArray, List.set_cons_zero, List.set_cons_succ])); ((first | (refine anyH_free (i := 34) (v := ?_) rfl (by kernel_rfl) (fun _ _ _ h => h) (Or.inl ⟨rfl, fun w' hS => ?_⟩) hb8 ?_; rotate_left; (skip; go_simp <;> with_reducible rfl)) | (refine anyH_free (i := 34) (v := undef) rfl (by kernel_rfl) (fun _ _ _ h => h) (Or.inr ⟨rfl, rfl⟩) hb8 ?_)); (simp only [Act.put, List.setIfInBounds_toArray, List.set_cons_zero, List.set_cons_succ]))
        refine anyH_sole (i := 33) rfl (by kernel_rfl) rfl (fun K hK => ?_)
        go_simp
        refine (Twins_any (HR4.out.all.below hb8) (by have := HP.out.n; omega)).mono ?_
        rintro e w9 ⟨vt, rt, rfl, hT, hb⟩
        have hb9 := below_then hb8 hb
        refine hK _ _ hb9 ?_
        clear hK K hb
        refine anyH_sole (i := 35) rfl (by kernel_rfl) rfl (fun K hK => ?_)
        go_simp
        refine (sameAll_any hT.all (HP.out.m.below (below_then HB4.out hb9)) (by have := HP.out.n; omega)).mono ?_
        rintro e wa ⟨rfl, hb⟩
        have hba := below_then hb9 hb
        refine hK _ _ hba ?_
        clear hK K hb hT hb9
        ((first | (refine anyH_free (i := 36) (v := ?_) rfl (by kernel_rfl) (fun _ _ _ h => h) (Or.inl ⟨rfl, fun w' hS => ?_⟩) hba ?_; rotate_left; (skip; go_simp <;> with_reducible rfl)) | (refine anyH_free (i := 36) (v := undef) rfl (by kernel_rfl) (fun _ _ _ h => h) (Or.inr ⟨rfl, rfl⟩) hba ?_)); (simp only [Act.put, List.setIfInBounds_toArray, List.set_cons_zero, List.set_cons_succ])); ((first | (refine anyH_free (i := 37) (v := ?_) rfl (by kernel_rfl) (fun _ _ _ h => h) (Or.inl ⟨rfl, fun w' hS => ?_⟩) hba ?_; rotate_left; (skip; go_simp <;> with_reducible rfl)) | (refine anyH_free (i := 37) (v := undef) rfl (by kernel_rfl) (fun _ _ _ h => h) (Or.inr ⟨rfl, rfl⟩) hba ?_)); (simp only [Act.put, List.setIfInBounds_toArray, List.set_cons_zero, List.set_cons_succ]))
        refine anyH_done (by kernel_rfl) ?_
        have HBA := Lib.hid (below_then HB4.out hba)
        have HRA := Lib.hid (HR4.out.below hba)
        have bxA := Lib.hid (bx4.out.below hba)
        have HXA := Lib.hid (HX4.out.below hba)
        have cA := bxA.out.rd.1
        clear hba hb8 hb0 hb6 bx4 HX4 HB4 HR4 hpm hqa
        go_wp2_with fail
        refine (spoil_wr HXA.out.wr (by have := HXA.out.lb.sz; omega)).mono ?_
        rintro e wb ⟨rfl, hkb, hsb⟩
        have HLP2 : Hid (LP wc (.slice pa (y :: q).length ca) (y :: q) rs wb) := Lib.hid ((lp_start HBA.out hs3 HRA.out).spoil hkb (fun k e => ⟨(HXO.out e.1 k e.2).1, fun e2 => by have := (HXO.out e.1 k e.2).2; have := (HRA.out.own.lt k e2).1; omega⟩) hsb)
        have HRL := Lib.hid HRA.out.len
        clear hkb hsb cA bxA HBA HRA HXA
        go_wp2_with fail
        go_loopw [15] (fun i wk => ∃ j : Nat, i = .int .i64 j ∧ j ≤ (y :: q).length ∧ LP wc (.slice pa (y :: q).length ca) (y :: q) rs wk) (fun i _ => (y :: q).length - (intOf i).toNat)
        · exact ⟨0, rfl, by omega, HLP2.out⟩
        obtain ⟨j, rfl, hj, hL⟩ := hrel
        have HLJ := Lib.hid hL
        clear hL
        by_cases hjl : j < (y :: q).length
        · obtain ⟨r, hr⟩ : ∃ r, rs[j]? = some r := ⟨_, List.getElem?_eq_getElem (by rw [HRL.out]; exact hjl)⟩
          obtain ⟨ar, rfl, _, _, hM⟩ := HLJ.out.row.at hr
          obtain ⟨g0, rfl⟩ := HLJ.out.hd _ _ _ rfl
          have x0 := hM j r hr 0 _ rfl
          rw [Addr.add_zero', Addr.add_lit, Nat.zero_add] at x0
          have hrm := List.mem_of_getElem? hr
          obtain ⟨pr, cr, hpr⟩ := HLJ.out.sh r hrm
          have hwr := HLJ.out.wr r hrm
          have how := HLJ.out.own r hrm
          have hsz := HLJ.out.sz r hrm
          rw [hpr] at x0 hwr how
          have HWR := Lib.hid hwr
          have HOW := Lib.hid how
          have HSZ := Lib.hid hsz
          have hjj : (j : Int) < (q.length : Int) + 1 := by simp at hjl; omega
          clear hM hr hrm hpr hwr how hsz
          go_wp2_with fail
          refine (spoil_wr HWR.out HSZ.out).mono ?_
          rintro e wd ⟨rfl, hkd, hsd⟩
          have HLD := Lib.hid (HLJ.out.spoil hkd (fun k e => HOW.out e.1 k e.2) hsd)
          clear hkd hsd x0 HLJ
          go_wp2_with fail
          exact ⟨⟨j + 1, by simp, by omega, HLD.out⟩, by simp [intOf]; omega⟩
        · obtain rfl : j = (y :: q).length := by omega
          go_wp2_with fail
          exact ⟨⟨k + 1, (y :: q), by simp, by omega, HP.out.below HLJ.out.b⟩, by simp [intOf]; omega⟩
  · obtain rfl : k = xs.length := by omega
    go_wp2_with fail
    refine (awake20_any _).mono ?_
    rintro e w1 ⟨rfl, hb⟩
    have HN1 := Lib.hid (HO.out.below hb)
    clear hb
    go_wp2_with fail
    go_ret
    exact ⟨rfl, HN1.out.b⟩
set_option maxRecDepth 100000 in
theorem plays_big {v : Value} {w : World} (hG : Calls Try.prog 17 #[v] w (Is (.bool true) w)) : Calls Try.prog 4 #[v] w (Tells (.bool true) w) := by
  have HG := Lib.hid hG
  clear hG
  go_enter Try.func4, Try.ntmps4
  go_wp2_with fail
  refine HG.out.mono ?_
  rintro e w1 ⟨rfl, rfl⟩
  go_wp2_with fail
  go_ret
  exact ⟨rfl, Below.refl _ _⟩
theorem plays_any {v : Value} {xs : List (Bool × (Value × It))} {w : World} (h : Sl (fun _ => True) w v 5 encA xs) (hl : ∀ x ∈ xs, LabO w x.2) : Calls Try.prog 4 #[v] w (Tells (.bool true) w) := by
  have hG := great_any h (fun x hx => by
    obtain ⟨p, c, e, _⟩ := (hl x hx).1.len
    exact ⟨p, c, e⟩)
  cases hb : greatB (xs.map Prod.snd) with
  | true => rw [hb] at hG; exact plays_big hG
  | false =>
    rw [hb] at hG
    obtain ⟨h1, h2⟩ := greatB_no hb
    rw [List.length_map] at h1
    exact plays_walk h hl hG h1 h2
end Go.Proofs.Ythligipgmicgfaa

/- NetPlays's walk -/
import Derived.Test.YtmmneeikcnapmaaNPl1
import Derived.Test.YtmmneeikcnapmaaNOpn
import Derived.Test.YtmmneeikcnapmaaNNon
namespace Go.Proofs.Ytmmneeikcnapmaa
open Go.RowKit
attribute [local go_sem] Oper.semAt_some

theorem Wr.kept {F : Nat → Prop} {W W' : World} {v : Value} {n : Nat} (h : Wr W v n) (hk : Kept F W W') (hF : ∀ b, v.ownBlock = some b → ¬ F b) : Wr W' v n := fun hp => by
  obtain ⟨b, c, cs, t, e, hb, hs⟩ := h hp
  exact ⟨b, c, cs, t, e, hb.kept hk (hF b (by rw [e]; rfl)), hs⟩
theorem Wr.set {W : World} {v : Value} {n : Nat} (h : Wr W v n) (b i : Nat) (u : Value) : Wr (W.setCell ⟨b, i, none⟩ u) v n := fun hp => by
  obtain ⟨b', c, cs, t, e, hb, hs⟩ := h hp
  by_cases hbb : b' = b
  · subst hbb
    exact ⟨b', c, _, t, e, hb.set u, by rw [Array.size_setIfInBounds]; exact hs⟩
  · exact ⟨b', c, cs, t, e, hb.other u hbb, hs⟩
/-- rows whose keys may be spoilt -/
def Rowsp (W : World) (v : Value) (rs : List Mr) : Prop := ∀ (k : Nat) (r : Mr), rs[k]? = some r → ∃ g c cs t, v = .slice (some ⟨g, 0, none⟩) rs.length c ∧ Box W g cs t ∧ rs.length * 5 ≤ cs.size ∧ cs[k * 5 + 3]? = some r.kv ∧ Wr W r.kv r.m.ks.length ∧ r.kv.ownBlock ≠ some g
theorem Rowsp.of {base : Nat} {W : World} {v : Value} {rs : List Mr} (h : Rwm base W v rs) : Rowsp W v rs := fun k r hr => by
  have hk := (List.getElem?_eq_some_iff.1 hr).1
  rcases h.own.2 with ⟨_, h0⟩ | ⟨g, cap, cur, rfl, hb, hg, h1, h2, h3, h4⟩
  · omega
  · refine ⟨g, cap, cur, _, rfl, hg, by rw [h3]; exact Nat.mul_le_mul_right _ h1, ?_, Wr.of (h.mw r (List.mem_of_getElem? hr)).k, (h.ne r (List.mem_of_getElem? hr) g rfl).1⟩
    have h5 := get_flatMap (enc := encM) encM_len (k := 3) (u := r.kv) hr rfl
    rw [← h4, List.getElem?_take] at h5
    split at h5
    · rwa [Array.getElem?_toList] at h5
    · cases h5
theorem Rowsp.row {W : World} {v : Value} {rs : List Mr} {g c k : Nat} (h : Rowsp W v rs) (hv : v = .slice (some ⟨g, 0, none⟩) rs.length c) (u : Value) : Rowsp (W.setCell ⟨g, k * 5 + 2, none⟩ u) v rs := fun j r hr => by
  obtain ⟨g', c', cs, t, e, hb, h1, h2, h3, h4⟩ := h j r hr
  rw [hv] at e
  simp only [Value.slice.injEq, Option.some.injEq, Addr.mk.injEq, and_true, true_and] at e
  obtain ⟨rfl, rfl⟩ := e
  exact ⟨g, c, _, t, hv, hb.set u, by rw [Array.size_setIfInBounds]; exact h1, by rw [getElem?_set', if_neg (by omega)]; exact h2, h3.set _ _ _, h4⟩
theorem Rowsp.key {W : World} {v : Value} {rs : List Mr} {b i : Nat} (h : Rowsp W v rs) (hv : v.ownBlock ≠ some b) (u : Value) : Rowsp (W.setCell ⟨b, i, none⟩ u) v rs := fun j r hr => by
  obtain ⟨g, c, cs, t, e, hb, h1, h2, h3, h4⟩ := h j r hr
  exact ⟨g, c, cs, t, e, hb.other u (fun x => hv (by rw [e, ← x]; rfl)), h1, h2, h3.set _ _ _, h4⟩
theorem Rowsp.below {W W' : World} {v : Value} {rs : List Mr} (h : Rowsp W v rs) (hb : Below W.heap.size W W') : Rowsp W' v rs := fun j r hr => by
  obtain ⟨g, c, cs, t, e, hbx, h1, h2, h3, h4⟩ := h j r hr
  exact ⟨g, c, cs, t, e, hbx.below hb, h1, h2, h3.kept (kept_of_below (F := fun _ => False) hb) (fun _ _ x => x), h4⟩
theorem sendL_len {xs : List Ms} {m : Ms} (h : xs.length ≤ 16) : (sendL xs m).length ≤ 16 := by
  unfold sendL
  split
  · simp; omega
  · exact h
theorem erase_len {xs : List Ms} {k : Nat} (h : xs.length ≤ 16) : (xs.eraseIdx k).length ≤ 16 := by
  have := List.length_eraseIdx_le xs k
  omega
/-- what Take hands back, what is left -/
def tk (xs : List Ms) (i : Int) : Ms × Bool × List Ms := match xs[pick i xs.length]? with
  | some m => (m, true, xs.eraseIdx (pick i xs.length))
  | none => (zeroM.m, false, xs)
theorem tk_some {xs : List Ms} {i : Int} {m : Ms} (h : xs[pick i xs.length]? = some m) : tk xs i = (m, true, xs.eraseIdx (pick i xs.length)) := by unfold tk; rw [h]
theorem tk_len {xs : List Ms} {i : Int} (h : xs.length ≤ 16) : (tk xs i).2.2.length ≤ 16 := by
  unfold tk
  split
  · exact erase_len h
  · exact h
theorem tk_few {xs : List Ms} {i : Int} (h : ∀ x ∈ xs, Few x) : Few (tk xs i).1 := by
  unfold tk
  split
  · rename_i m hm
    exact h m (List.mem_of_getElem? hm)
  · exact ⟨by simp [zeroM], by simp [zeroM]⟩
def PTk (B p q : Nat) (L : Nat → Prop) (xs ys : List Ms) (i : Int) (w : World) (e : Ending) (w' : World) : Prop :=
  ∃ r, e = .returned (.tuple #[mv r, .bool (tk xs i).2.1]) ∧ r.m = (tk xs i).1 ∧ Mo (fun b => b < w.heap.size ∧ B ≤ b ∧ ¬ L b ∧ b ≠ q) w' r ∧ PI B p q L w' (tk xs i).2.2 ys ∧ Kept (fun b => B ≤ b ∧ ¬ L b) w w'
theorem ptk {B p q : Nat} {L : Nat → Prop} {xs ys : List Ms} {i : Int} {w : World} (h : PI B p q L w xs ys) (_ : B ≤ w.heap.size) (hn : xs.length ≤ 16) : Calls Try.prog 15 #[nv p, .int .i64 i] w (PTk B p q L xs ys i w) := by
  by_cases hx : xs = []
  · subst hx
    refine (ptake0 h).mono ?_
    rintro e w' ⟨rfl, hb⟩
    exact ⟨zeroM, rfl, rfl, Mo.zero _ _, h.below hb, kept_of_below hb⟩
  · have hp : 0 < xs.length := List.length_pos_iff.2 hx
    obtain ⟨S, T, h1, h2, h3, h4⟩ := h.ex
    refine (take_any h1 hp (by omega)).mono ?_
    rintro e w' ⟨r, he, hx, hm, h5, h6⟩
    unfold PTk
    rw [tk_some hx]
    refine ⟨r, he, rfl, hm.mono (fun b _ s => ⟨(h3 b s).1, (h3 b s).2.1, (h3 b s).2.2.1, (h3 b s).2.2.2.1⟩), ⟨⟨S, T, h5, h2.kept h6 (fun b hb t s => ?_) (fun s => ?_), fun b s => ⟨Nat.lt_of_lt_of_le (h3 b s).1 h6.size, (h3 b s).2⟩, fun b s => ⟨Nat.lt_of_lt_of_le (h4 b s).1 h6.size, (h4 b s).2⟩⟩, h.lp, h.lq, h.pq⟩, h6.mono (fun b hb s => ?_)⟩
    · rcases s with s | s
      · exact (h4 b t).2.2.2 s
      · exact (h3 b s).2.2.2.2 t
    · rcases s with s | s
      · exact h.pq s.symm
      · exact (h3 q s).2.2.2.1 rfl
    · rcases s with rfl | s
      · exact h.lp
      · exact ⟨(h3 b s).2.1, (h3 b s).2.2.1⟩
def PRTk (B p q : Nat) (L : Nat → Prop) (xs ys : List Ms) (i : Int) (w : World) (e : Ending) (w' : World) : Prop :=
  ∃ r, e = .returned (.tuple #[mv r, .bool (tk ys i).2.1]) ∧ r.m = (tk ys i).1 ∧ Mo (fun _ => True) w' r ∧ PI B p q L w' xs (tk ys i).2.2 ∧ Kept (fun b => b = q) w w'
theorem prtk {B p q : Nat} {L : Nat → Prop} {xs ys : List Ms} {i : Int} {w : World} (h : PI B p q L w xs ys) (hL : ∀ b, L b → b < w.heap.size) (hB : B ≤ w.heap.size) (hn : ys.length ≤ 16) : Calls Try.prog 17 #[nv q, .int .i64 i] w (PRTk B p q L xs ys i w) := by
  by_cases hx : ys = []
  · subst hx
    refine (prtake0 h).mono ?_
    rintro e w' ⟨rfl, hb⟩
    exact ⟨zeroM, rfl, rfl, Mo.zero _ _, h.below hb, kept_of_below hb⟩
  · have hp : 0 < ys.length := List.length_pos_iff.2 hx
    refine (prtake h hL hB hp (by omega)).mono ?_
    rintro e w' ⟨r, he, hx, hm, h5, h6⟩
    unfold PRTk
    rw [tk_some hx]
    exact ⟨r, he, rfl, hm, h5, h6⟩
abbrev ac (b : Bool) (r : Mr) (n : Int) : Array Value := #[.bool b, .int .u32 r.m.rule, .string r.m.route, .int .i64 r.m.at_, r.kv, r.sv, .int .i64 n]
set_option maxRecDepth 100000 in
set_option maxHeartbeats 4000000 in
theorem netPlays_any {v : Value} {acts : List (Bool × Mr × Int)} {w : World} (h : Sl (fun _ => True) w v 7 encT acts) (hr : ∀ x ∈ acts, Mo (fun _ => True) w x.2.1) : Calls Try.prog 5 #[v] w (Tells (.bool true) w) := by
  obtain ⟨p1, c1, rfl, -, -⟩ := h.len
  have HL := Lib.hid (h.mono (T := fun b => b < w.heap.size) (fun b hb _ => hb))
  have HR : Hid (∀ x ∈ acts, Mo (fun b => b < w.heap.size) w x.2.1) := Lib.hid fun x hx => (hr x hx).mono (fun b hb _ => hb)
  clear h hr
  by_cases h1 : acts.length ≤ 100
  · have h1' : ¬ (100 : Int) < (acts.length : Int) := by omega
    go_enter Try.func5, Try.ntmps5
    go_wp2_with fail
    refine (new_any (Msl.nil (fun _ => True) _) (fun x hx => by cases hx) (by simp)).mono ?_
    rintro e w2 ⟨rfl, hN, hb⟩
    have b4 := Box.new w2 #[.slice none 0 0] 44
    have hb4 : Below w2.heap.size w2 (w2.alloc (.cells #[.slice none 0 0] 44)) := (Below.refl _ w2).alloc (Nat.le_refl _) _
    have hwl := hN.lt
    have hP0 : PI w.heap.size w.heap.size w2.heap.size (fun _ => False) (w2.alloc (.cells #[.slice none 0 0] 44)) [] [] := by
      refine ⟨⟨fun b => w.heap.size < b ∧ b < w2.heap.size, fun _ => False, (hN.mono (fun b hb s => ⟨s, hb⟩) (fun s => by omega)).below hb4, ⟨_, [], rfl, b4, World.ownsRow_nil _ _ _ _, (fun b e => by cases e), (fun r hr => by cases hr), (fun x => x), (fun r hr => by cases hr)⟩, fun b s => ⟨by rw [World.size_alloc]; omega, by omega, (fun x => x), by omega, (fun x => x)⟩, fun b s => s.elim⟩, ⟨Nat.le_refl _, (fun x => x)⟩, ⟨by omega, (fun x => x)⟩, by omega⟩
    have HB0 := Lib.hid (below_then hb hb4)
    have HP0 := Lib.hid hP0
    obtain ⟨B, hBe⟩ : ∃ B, B = w.heap.size := ⟨_, rfl⟩
    obtain ⟨q, hqe⟩ : ∃ q, q = w2.heap.size := ⟨_, rfl⟩
    clear hN hb hb4 b4 hP0
    go_upto_region 5 with fail
    rw [← hqe] at HP0 ⊢
    clear hqe
    go_loopw [5] (fun iv_ wr => ∃ (i : Nat) (xs : List Ms), iv_ = .int .i64 i ∧ i ≤ acts.length ∧ xs.length ≤ 16 ∧ PI w.heap.size w.heap.size q (fun _ => False) wr xs xs ∧ Below w.heap.size w wr) (fun iv_ _ => acts.length - (intOf iv_).toNat)
    · exact ⟨0, [], rfl, by omega, by simp, HP0.out, HB0.out⟩
    clear HP0 HB0 hBe
    obtain ⟨i, xs, rfl, hi, hx16, hP, hB⟩ := hrel
    by_cases hlt : i < acts.length
    · obtain ⟨⟨b, ⟨kv, sv, m⟩, n⟩, hx⟩ : ∃ x, acts[i]? = some x := ⟨_, List.getElem?_eq_getElem hlt⟩
      have hmo := (HR.out _ (List.mem_of_getElem? hx)).below hB
      simp only at hmo
      obtain ⟨q1, d1, e3, -, -⟩ := hmo.k.len
      obtain ⟨q2, d2, e4, -, -⟩ := hmo.s.len
      simp only at e3 e4
      subst e3 e4
      obtain ⟨a1, rfl, -, -, hM⟩ := (HL.out.below hB).at hx
      have x0 : wr.cell? (a1.add (i * 7)) = some (.bool b) := hM i _ hx 0 _ rfl
      have x1 : wr.cell? ⟨(a1.add (i * 7)).block, (a1.add (i * 7)).off + 1, none⟩ = some (.int .u32 m.rule) := hM i _ hx 1 _ rfl
      have x2 : wr.cell? ⟨(a1.add (i * 7)).block, (a1.add (i * 7)).off + 2, none⟩ = some (.string m.route) := hM i _ hx 2 _ rfl
      have x3 : wr.cell? ⟨(a1.add (i * 7)).block, (a1.add (i * 7)).off + 3, none⟩ = some (.int .i64 m.at_) := hM i _ hx 3 _ rfl
      have x4 : wr.cell? ⟨(a1.add (i * 7)).block, (a1.add (i * 7)).off + 4, none⟩ = some (.slice q1 m.ks.length d1) := hM i _ hx 4 _ rfl
      have x5 : wr.cell? ⟨(a1.add (i * 7)).block, (a1.add (i * 7)).off + 5, none⟩ = some (.slice q2 m.ss.length d2) := hM i _ hx 5 _ rfl
      have x6 : wr.cell? ⟨(a1.add (i * 7)).block, (a1.add (i * 7)).off + 6, none⟩ = some (.int .i64 n) := hM i _ hx 6 _ rfl
      have hik : (i : Int) < (acts.length : Int) := by omega
      have hb6 : Below wr.heap.size wr (wr.alloc (.cells (ac b ⟨.slice q1 m.ks.length d1, .slice q2 m.ss.length d2, m⟩ n) 46)) := (Below.refl _ wr).alloc (Nat.le_refl _) _
      have HB6 := Lib.hid (hB.trans (hb6.mono hB.size))
      have HP6 := Lib.hid hP
      have HR6 := Lib.hid hb6
      have HM6 := Lib.hid (hmo.below hb6)
      have HX6 := Lib.hid (Box.new wr (ac b ⟨.slice q1 m.ks.length d1, .slice q2 m.ss.length d2, m⟩ n) 46)
      have hwr := hB.size
      clear hx hmo hM hb6 hP hB
      go_wp2_with fail
      obtain ⟨W6, hW6⟩ : ∃ W6, (wr.alloc (.cells (ac b ⟨.slice q1 m.ks.length d1, .slice q2 m.ss.length d2, m⟩ n) 46)) = W6 := ⟨_, rfl⟩
      rw [hW6] at HB6 HR6 HM6 HX6 ⊢
      clear hW6 x0 x1 x2 x3 x4 x5 x6
      have hl6 := HX6.out.lt
      refine (big_any HM6.out).mono ?_
      rintro e w3 ⟨bg, rfl, hf, hb⟩
      have HB7 := Lib.hid (HB6.out.trans (hb.mono HB6.out.size))
      cases bg with
      | true =>
        clear hf hb
        go_wp2_with fail
        go_ret
        exact ⟨rfl, HB7.out⟩
      | false =>
        have HF := Lib.hid (hf rfl)
        have HP7 : Hid (PI w.heap.size w.heap.size q (fun b => wr.heap.size ≤ b ∧ b < w3.heap.size) w3 xs xs) := Lib.hid ((HP6.out.grow (below_then HR6.out hb)).less (fun b _ m => .inr m.1))
        have hqr := HP6.out.lt.2
        have HM7 := Lib.hid (HM6.out.below hb)
        have HX7 := Lib.hid (HX6.out.below hb)
        have hs7 := hb.size
        clear hf hb HB6 HP6 HM6 HX6 HR6
        obtain ⟨t6, ht6⟩ : ∃ t6, wr.heap.size = t6 := ⟨_, rfl⟩
        rw [ht6] at HX7 HP7 hl6 hwr hqr ⊢
        clear ht6
        have c6 := HX7.out.rd.1
        go_upto_if 38 with fail
        go_cut [7] (fun _ wc => ∃ xs' : List Ms, xs'.length ≤ 16 ∧ PI w.heap.size w.heap.size q (fun _ => False) wc xs' xs' ∧ Below w.heap.size w wc)
        case first =>
          cases b with
          | true =>
            go_wp2_with fail
            refine (ptk HP7.out HB7.out.size hx16).mono ?_
            rintro e w8 ⟨⟨kv, sv, r1⟩, rfl, hr1, hm1, hP8, hk8⟩
            obtain ⟨q3, d3, e3, -, -⟩ := hm1.k.len
            obtain ⟨q4, d4, e4, -, -⟩ := hm1.s.len
            simp only at e3 e4 hr1
            subst e3 e4
            have HX8 := Lib.hid (HX7.out.kept hk8 (fun x => by have := x.2; omega))
            have hs8 := hk8.size
            have hf1 : Few r1 := by rw [hr1]; exact tk_few HP7.out.few.1
            have HB8 := Lib.hid (HB7.out.trans (hk8.below (fun b s => s.1) HB7.out.size))
            obtain ⟨f, hfe⟩ : ∃ f, (tk xs n).2.1 = f := ⟨_, rfl⟩
            rw [hfe]
            have b7 := Box.new w8 (mc ⟨.slice q3 r1.ks.length d3, .slice q4 r1.ss.length d4, r1⟩) 33
            have hb9 : Below w8.heap.size w8 (w8.alloc (.cells (mc ⟨.slice q3 r1.ks.length d3, .slice q4 r1.ss.length d4, r1⟩) 33)) := (Below.refl _ w8).alloc (Nat.le_refl _) _
            have HP9 := Lib.hid (hP8.below hb9)
            have HM9 := Lib.hid (hm1.below hb9)
            have HX9 := Lib.hid (HX8.out.below hb9)
            have HB9 := Lib.hid (HB8.out.trans (hb9.mono HB8.out.size))
            have HF1 := Lib.hid hf1
            have HR1 := Lib.hid hr1
            have HFE := Lib.hid hfe
            clear hr1 hm1 hP8 hk8 c6 hfe hf1
            have c6 := HX8.out.rd.1
            have hl8 := HX8.out.lt
            go_wp2_with fail
            obtain ⟨W8, hW8⟩ : ∃ W8, (w8.alloc (.cells (mc ⟨.slice q3 r1.ks.length d3, .slice q4 r1.ss.length d4, r1⟩) 33)) = W8 := ⟨_, rfl⟩
            rw [hW8] at b7 hb9 HP9 HM9 HX9 HB9 ⊢
            have hs9 := hb9.size
            have HX7' := Lib.hid b7
            clear hW8 hb9 b7 c6
            refine (prtk HP9.out (fun b m => by omega) HB9.out.size hx16).mono ?_
            rintro e w9 ⟨⟨kv, sv, r2⟩, rfl, hr2, hm2, hP, hk⟩
            obtain rfl : r2 = r1 := hr2.trans HR1.out.symm
            rw [HFE.out]
            obtain ⟨q5, d5, e3, -, -⟩ := hm2.k.len
            obtain ⟨q6, d6, e4, -, -⟩ := hm2.s.len
            simp only at e3 e4
            subst e3 e4
            have hq8 : q < w8.heap.size := by omega
            have h7 := HX7'.out.kept hk (by omega)
            have hm9 := HM9.out.kept hk (fun b _ s e => s.2.2.2 e)
            have HBA := Lib.hid (HB9.out.trans (hk.below (fun b s => by have := HP9.out.lq.1; omega) HB9.out.size))
            have hsA := hk.size
            have b9 := Box.new w9 (mc ⟨.slice q5 r2.ks.length d5, .slice q6 r2.ss.length d6, r2⟩) 33
            have hbB : Below w9.heap.size w9 (w9.alloc (.cells (mc ⟨.slice q5 r2.ks.length d5, .slice q6 r2.ss.length d6, r2⟩) 33)) := (Below.refl _ w9).alloc (Nat.le_refl _) _
            have HSM := Lib.hid (same_any (hm9.below hbB) (hm2.below hbB) rfl HF1.out)
            have HPB := Lib.hid (hP.below hbB)
            have HBB := Lib.hid (HBA.out.trans (hbB.mono HBA.out.size))
            have c7 := h7.rd.1
            have hl7 := h7.lt
            clear hr2 hm2 hP hk hm9 hbB b9
            go_wp2_with fail
            refine HSM.out.mono ?_
            rintro e wA ⟨rfl, hb⟩
            have HPC := Lib.hid (HPB.out.below hb)
            have HBC := Lib.hid (HBB.out.trans (hb.mono HBB.out.size))
            clear hb HSM HPB HBB c7
            go_wp2_with fail
            go_meet
            case rel => exact ⟨(tk xs n).2.2, tk_len hx16, HPC.out.less (fun _ _ x => x.elim), HBC.out⟩
          | false =>
            have HCP := Lib.hid (copy_any HM7.out HF.out)
            go_wp2_with fail
            refine HCP.out.mono ?_
            rintro e w8 ⟨⟨kv, sv, m2⟩, rfl, hrm, hmw, hb⟩
            obtain rfl : m2 = m := hrm
            have hmo := hmw.mo
            obtain ⟨q3, d3, e3, -, -⟩ := hmo.k.len
            obtain ⟨q4, d4, e4, -, -⟩ := hmo.s.len
            simp only at e3 e4
            subst e3 e4
            have b11 := Box.new w8 (mc ⟨.slice q3 m2.ks.length d3, .slice q4 m2.ss.length d4, m2⟩) 33
            have hb11 : Below w8.heap.size w8 (w8.alloc (.cells (mc ⟨.slice q3 m2.ks.length d3, .slice q4 m2.ss.length d4, m2⟩) 33)) := (Below.refl _ w8).alloc (Nat.le_refl _) _
            have hs8 := hb.size
            clear c6 HCP
            go_wp2_with fail
            obtain ⟨W8, hW8⟩ : ∃ W8, (w8.alloc (.cells (mc ⟨.slice q3 m2.ks.length d3, .slice q4 m2.ss.length d4, m2⟩) 33)) = W8 := ⟨_, rfl⟩
            rw [hW8] at b11 hb11 ⊢
            have hl11 := b11.lt
            have hb38 : Below w3.heap.size w3 W8 := below_then hb hb11
            have HP8 : Hid (PI w.heap.size w.heap.size q (fun b => t6 ≤ b ∧ b < W8.heap.size) W8 xs xs) := Lib.hid ((HP7.out.grow hb38).less (fun b _ x => by omega))
            have HX8 := Lib.hid (HX7.out.below hb38)
            have HM8 := Lib.hid (HM7.out.below hb38)
            have HW8 := Lib.hid (hmw.below hb11)
            have H11 := Lib.hid b11
            have HB8 := Lib.hid (HB7.out.trans (hb38.mono HB7.out.size))
            have hs8' := hb11.size
            have hwB := HB7.out.size
            obtain ⟨t11, ht11⟩ : ∃ t11, w8.heap.size = t11 := ⟨_, rfl⟩
            rw [ht11] at H11 hl11 hs8 ⊢
            have hmk : ∀ b, (Value.slice q3 m2.ks.length d3).ownBlock = some b → t6 ≤ b ∧ b < t11 := fun b e => by
              have h1 := (hmw.k.lt b e).1
              have h2 := (hmw.k.lt b e).2
              omega
            have hms : ∀ b, (Value.slice q4 m2.ss.length d4).ownBlock = some b → t6 ≤ b ∧ b < t11 := fun b e => by
              have h1 := (hmw.s.lt b e).1
              have h2 := (hmw.s.lt b e).2
              omega
            have HMK := Lib.hid hmk
            have HMS := Lib.hid hms
            clear hb hmo hW8 hb38 hmw hb11 b11 ht11 hmk hms hs8'
            refine anyH_start 15 (fun w' => Kept (fun b => w.heap.size ≤ b ∧ ¬ (t6 ≤ b ∧ b < W8.heap.size)) W8 w') (by kernel_rfl) rfl ?_
            have hb0 : Kept (fun b => w.heap.size ≤ b ∧ ¬ (t6 ≤ b ∧ b < W8.heap.size)) W8 W8.drew := (Kept.refl _ W8).drew
            ((first | (refine anyH_free (i := 0) (v := ?_) rfl (by kernel_rfl) (fun _ _ _ h => h) (Or.inl ⟨rfl, fun w' hS => ?_⟩) hb0 ?_; rotate_left; ((have c6 := (HX8.out.kept hS (fun x => x.2 ⟨by omega, by omega⟩)).rd.1; have c11 := (H11.out.kept hS (fun x => x.2 ⟨by omega, by omega⟩)).rd.1); go_simp <;> with_reducible rfl)) | (refine anyH_free (i := 0) (v := undef) rfl (by kernel_rfl) (fun _ _ _ h => h) (Or.inr ⟨rfl, rfl⟩) hb0 ?_)); (simp only [Act.put, List.setIfInBounds_toArray, List.set_cons_zero, List.set_cons_succ])); ((first | (refine anyH_free (i := 1) (v := ?_) rfl (by kernel_rfl) (fun _ _ _ h => h) (Or.inl ⟨rfl, fun w' hS => ?_⟩) hb0 ?_; rotate_left; ((have c6 := (HX8.out.kept hS (fun x => x.2 ⟨by omega, by omega⟩)).rd.1; have c11 := (H11.out.kept hS (fun x => x.2 ⟨by omega, by omega⟩)).rd.1); go_simp <;> with_reducible rfl)) | (refine anyH_free (i := 1) (v := undef) rfl (by kernel_rfl) (fun _ _ _ h => h) (Or.inr ⟨rfl, rfl⟩) hb0 ?_)); (simp only [Act.put, List.setIfInBounds_toArray, List.set_cons_zero, List.set_cons_succ])); ((first | (refine anyH_free (i := 3) (v := ?_) rfl (by kernel_rfl) (fun _ _ _ h => h) (Or.inl ⟨rfl, fun w' hS => ?_⟩) hb0 ?_; rotate_left; ((have c6 := (HX8.out.kept hS (fun x => x.2 ⟨by omega, by omega⟩)).rd.1; have c11 := (H11.out.kept hS (fun x => x.2 ⟨by omega, by omega⟩)).rd.1); go_simp <;> with_reducible rfl)) | (refine anyH_free (i := 3) (v := undef) rfl (by kernel_rfl) (fun _ _ _ h => h) (Or.inr ⟨rfl, rfl⟩) hb0 ?_)); (simp only [Act.put, List.setIfInBounds_toArray, List.set_cons_zero, List.set_cons_succ])); ((first | (refine anyH_free (i := 4) (v := ?_) rfl (by kernel_rfl) (fun _ _ _ h => h) (Or.inl ⟨rfl, fun w' hS => ?_⟩) hb0 ?_; rotate_left; ((have c6 := (HX8.out.kept hS (fun x => x.2 ⟨by omega, by omega⟩)).rd.1; have c11 := (H11.out.kept hS (fun x => x.2 ⟨by omega, by omega⟩)).rd.1); go_simp <;> with_reducible rfl)) | (refine anyH_free (i := 4) (v := undef) rfl (by kernel_rfl) (fun _ _ _ h => h) (Or.inr ⟨rfl, rfl⟩) hb0 ?_)); (simp only [Act.put, List.setIfInBounds_toArray, List.set_cons_zero, List.set_cons_succ])); ((first | (refine anyH_free (i := 5) (v := ?_) rfl (by kernel_rfl) (fun _ _ _ h => h) (Or.inl ⟨rfl, fun w' hS => ?_⟩) hb0 ?_; rotate_left; ((have c6 := (HX8.out.kept hS (fun x => x.2 ⟨by omega, by omega⟩)).rd.1; have c11 := (H11.out.kept hS (fun x => x.2 ⟨by omega, by omega⟩)).rd.1); go_simp <;> with_reducible rfl)) | (refine anyH_free (i := 5) (v := undef) rfl (by kernel_rfl) (fun _ _ _ h => h) (Or.inr ⟨rfl, rfl⟩) hb0 ?_)); (simp only [Act.put, List.setIfInBounds_toArray, List.set_cons_zero, List.set_cons_succ]))
            refine anyH_sole (i := 2) rfl (by kernel_rfl) rfl (fun K hK => ?_)
            go_simp
            refine (psend (r := ⟨.slice q3 m2.ks.length d3, .slice q4 m2.ss.length d4, m2⟩) (HP8.out.below (Below.refl _ W8).drew) (fun b x => x.2) (by show w.heap.size ≤ W8.heap.size; omega) ((HW8.out.below (Below.refl _ W8).drew).mo) HF.out).mono ?_
            rintro e w9 ⟨rfl, hP9, hk9⟩
            have hk9' := hb0.trans hk9 (fun _ _ x => x) (fun _ _ x => x)
            refine hK _ _ hk9' ?_
            clear hK K
            refine anyH_sole (i := 6) rfl (by kernel_rfl) rfl (fun K hK => ?_)
            go_simp
            have hm9 := HM8.out.kept hk9' (fun b hb s x => by have s' : b < w.heap.size := s; omega)
            refine (prsend (r := ⟨.slice q1 m2.ks.length d1, .slice q2 m2.ss.length d2, m2⟩) hP9 (fun b x => by have := hk9'.size; omega) (by have := hk9'.size; omega) hm9 HF.out).mono ?_
            rintro e w10 ⟨rfl, hP10, hk10⟩
            have hk10' := hk9'.trans hk10 (fun _ _ x => x) (fun _ _ x => x)
            refine hK _ _ hk10' ?_
            clear hK K
            ((first | (refine anyH_free (i := 7) (v := ?_) rfl (by kernel_rfl) (fun _ _ _ h => h) (Or.inl ⟨rfl, fun w' hS => ?_⟩) hk10' ?_; rotate_left; ((have c6 := (HX8.out.kept hS (fun x => x.2 ⟨by omega, by omega⟩)).rd.1; have c11 := (H11.out.kept hS (fun x => x.2 ⟨by omega, by omega⟩)).rd.1); go_simp <;> with_reducible rfl)) | (refine anyH_free (i := 7) (v := undef) rfl (by kernel_rfl) (fun _ _ _ h => h) (Or.inr ⟨rfl, rfl⟩) hk10' ?_)); (simp only [Act.put, List.setIfInBounds_toArray, List.set_cons_zero, List.set_cons_succ])); ((first | (refine anyH_free (i := 8) (v := ?_) rfl (by kernel_rfl) (fun _ _ _ h => h) (Or.inl ⟨rfl, fun w' hS => ?_⟩) hk10' ?_; rotate_left; ((have c6 := (HX8.out.kept hS (fun x => x.2 ⟨by omega, by omega⟩)).rd.1; have c11 := (H11.out.kept hS (fun x => x.2 ⟨by omega, by omega⟩)).rd.1); go_simp <;> with_reducible rfl)) | (refine anyH_free (i := 8) (v := undef) rfl (by kernel_rfl) (fun _ _ _ h => h) (Or.inr ⟨rfl, rfl⟩) hk10' ?_)); (simp only [Act.put, List.setIfInBounds_toArray, List.set_cons_zero, List.set_cons_succ])); ((first | (refine anyH_free (i := 9) (v := ?_) rfl (by kernel_rfl) (fun _ _ _ h => h) (Or.inl ⟨rfl, fun w' hS => ?_⟩) hk10' ?_; rotate_left; ((have c6 := (HX8.out.kept hS (fun x => x.2 ⟨by omega, by omega⟩)).rd.1; have c11 := (H11.out.kept hS (fun x => x.2 ⟨by omega, by omega⟩)).rd.1); go_simp <;> with_reducible rfl)) | (refine anyH_free (i := 9) (v := undef) rfl (by kernel_rfl) (fun _ _ _ h => h) (Or.inr ⟨rfl, rfl⟩) hk10' ?_)); (simp only [Act.put, List.setIfInBounds_toArray, List.set_cons_zero, List.set_cons_succ])); ((first | (refine anyH_free (i := 10) (v := ?_) rfl (by kernel_rfl) (fun _ _ _ h => h) (Or.inl ⟨rfl, fun w' hS => ?_⟩) hk10' ?_; rotate_left; ((have c6 := (HX8.out.kept hS (fun x => x.2 ⟨by omega, by omega⟩)).rd.1; have c11 := (H11.out.kept hS (fun x => x.2 ⟨by omega, by omega⟩)).rd.1); go_simp <;> with_reducible rfl)) | (refine anyH_free (i := 10) (v := undef) rfl (by kernel_rfl) (fun _ _ _ h => h) (Or.inr ⟨rfl, rfl⟩) hk10' ?_)); (simp only [Act.put, List.setIfInBounds_toArray, List.set_cons_zero, List.set_cons_succ])); ((first | (refine anyH_free (i := 11) (v := ?_) rfl (by kernel_rfl) (fun _ _ _ h => h) (Or.inl ⟨rfl, fun w' hS => ?_⟩) hk10' ?_; rotate_left; ((have c6 := (HX8.out.kept hS (fun x => x.2 ⟨by omega, by omega⟩)).rd.1; have c11 := (H11.out.kept hS (fun x => x.2 ⟨by omega, by omega⟩)).rd.1); go_simp <;> with_reducible rfl)) | (refine anyH_free (i := 11) (v := undef) rfl (by kernel_rfl) (fun _ _ _ h => h) (Or.inr ⟨rfl, rfl⟩) hk10' ?_)); (simp only [Act.put, List.setIfInBounds_toArray, List.set_cons_zero, List.set_cons_succ]))
            refine anyH_sole (i := 12) rfl (by kernel_rfl) rfl (fun K hK => ?_)
            go_simp
            refine (same_any (x := ⟨.slice q3 m2.ks.length d3, .slice q4 m2.ss.length d4, m2⟩) (y := ⟨.slice q1 m2.ks.length d1, .slice q2 m2.ss.length d2, m2⟩) ((HW8.out.mo.mono (T := fun b => t6 ≤ b ∧ b < W8.heap.size) (fun b hb s => ⟨by have s' : w3.heap.size ≤ b := s; omega, hb⟩)).kept hk10' (fun b _ s x => x.2 s)) (HM8.out.kept hk10' (fun b hb s x => by have s' : b < w.heap.size := s; omega)) rfl HF.out).mono ?_
            rintro e w11 ⟨rfl, hb⟩
            have hk11 := hk10'.later hb
            refine hK _ _ hk11 ?_
            clear hK K
            ((first | (refine anyH_free (i := 13) (v := ?_) rfl (by kernel_rfl) (fun _ _ _ h => h) (Or.inl ⟨rfl, fun w' hS => ?_⟩) hk11 ?_; rotate_left; (skip; go_simp <;> with_reducible rfl)) | (refine anyH_free (i := 13) (v := undef) rfl (by kernel_rfl) (fun _ _ _ h => h) (Or.inr ⟨rfl, rfl⟩) hk11 ?_)); (simp only [Act.put, List.setIfInBounds_toArray, List.set_cons_zero, List.set_cons_succ])); ((first | (refine anyH_free (i := 14) (v := ?_) rfl (by kernel_rfl) (fun _ _ _ h => h) (Or.inl ⟨rfl, fun w' hS => ?_⟩) hk11 ?_; rotate_left; (skip; go_simp <;> with_reducible rfl)) | (refine anyH_free (i := 14) (v := undef) rfl (by kernel_rfl) (fun _ _ _ h => h) (Or.inr ⟨rfl, rfl⟩) hk11 ?_)); (simp only [Act.put, List.setIfInBounds_toArray, List.set_cons_zero, List.set_cons_succ]))
            refine anyH_done (by kernel_rfl) ?_
            have HPB := Lib.hid (hP10.below hb)
            have HBB := Lib.hid (HB8.out.trans (hk11.below (fun b s => s.1) HB8.out.size))
            have H11B := Lib.hid (H11.out.kept hk11 (fun x => x.2 ⟨by omega, by omega⟩))
            have HWK := Lib.hid ((Wr.of HW8.out.k).kept hk11 (fun b e x => x.2 (by have := HMK.out b e; omega)))
            have HWS := Lib.hid ((Wr.of HW8.out.s).kept hk11 (fun b e x => x.2 (by have := HMS.out b e; omega)))
            have hs11 := hk11.size
            clear hb hb0 hk9 hk9' hk10 hk10' hk11 hP9 hP10 hm9
            go_wp2_with fail
            go_loopw [12] (fun iv_ wx => ∃ k : Nat, iv_ = .int .i64 k ∧ k ≤ m2.ks.length ∧ Wr wx (.slice q3 m2.ks.length d3) m2.ks.length ∧ Wr wx (.slice q4 m2.ss.length d4) m2.ss.length ∧ Box wx t11 (mc ⟨.slice q3 m2.ks.length d3, .slice q4 m2.ss.length d4, m2⟩) 33 ∧ Kept (fun b => t6 ≤ b ∧ b < W8.heap.size) w11 wx) (fun iv_ _ => m2.ks.length - (intOf iv_).toNat)
            · exact ⟨0, rfl, by omega, HWK.out, HWS.out, H11B.out, Kept.refl _ _⟩
            clear HWK HWS H11B
            obtain ⟨k, rfl, hk, hWK, hWS, hBX, hKp⟩ := hrel
            have HWS := Lib.hid hWS
            have HKp := Lib.hid hKp
            have HBX := Lib.hid hBX
            have HWK := Lib.hid hWK
            clear hWS hKp hBX hWK
            have c11 := HBX.out.rd.1
            have hfk := HF.out.1
            have hfs := HF.out.2
            by_cases hlk : k < m2.ks.length
            · obtain ⟨bk, ck, cs, tt, e, hbk, hsz⟩ := HWK.out (by omega)
              simp only [Value.slice.injEq, true_and] at e
              obtain ⟨rfl, rfl⟩ := e
              obtain ⟨ov, hov⟩ : ∃ ov, cs[k]? = some ov := ⟨_, Array.getElem?_eq_getElem (by omega)⟩
              have ck : wr.cell? ⟨bk, k, none⟩ = some ov := by rw [hbk.rd.1]; exact hov
              have fk := hbk.rd.2 k
              have hkk : (k : Int) < (m2.ks.length : Int) := by omega
              have hbm := HMK.out bk rfl
              clear hbk hsz hov
              go_wp2_with fail
              exact ⟨⟨k + 1, by simp, by omega, HWK.out.set _ _ _, HWS.out.set _ _ _, HBX.out.other _ (by omega), HKp.out.setCell _ _ (fun _ => ⟨by show t6 ≤ bk; omega, by show bk < W8.heap.size; omega⟩)⟩, by simp [intOf]; omega⟩
            · obtain rfl : k = m2.ks.length := by omega
              go_wp2_with fail
              obtain ⟨wy, hwy⟩ : ∃ wy, wy = wr := ⟨_, rfl⟩
              rw [← hwy] at HKp HBX HWS HWK ⊢
              clear hwy c11
              go_loopw [13] (fun iv_ wx => ∃ k : Nat, iv_ = .int .i64 k ∧ k ≤ m2.ss.length ∧ Wr wx (.slice q4 m2.ss.length d4) m2.ss.length ∧ Box wx t11 (mc ⟨.slice q3 m2.ks.length d3, .slice q4 m2.ss.length d4, m2⟩) 33 ∧ Kept (fun b => t6 ≤ b ∧ b < W8.heap.size) w11 wx) (fun iv_ _ => m2.ss.length - (intOf iv_).toNat)
              · exact ⟨0, rfl, by omega, HWS.out, HBX.out, HKp.out⟩
              clear HWK HWS HBX HKp
              obtain ⟨k, rfl, hk, hWS, hBX, hKp⟩ := hrel
              have HWS := Lib.hid hWS
              have HKp := Lib.hid hKp
              have HBX := Lib.hid hBX
              clear hWS hKp hBX
              have c11 := HBX.out.rd.1
              by_cases hlk : k < m2.ss.length
              · obtain ⟨bk, ck, cs, tt, e, hbk, hsz⟩ := HWS.out (by omega)
                simp only [Value.slice.injEq, true_and] at e
                obtain ⟨rfl, rfl⟩ := e
                obtain ⟨ov, hov⟩ : ∃ ov, cs[k]? = some ov := ⟨_, Array.getElem?_eq_getElem (by omega)⟩
                have ck : wr.cell? ⟨bk, k, none⟩ = some ov := by rw [hbk.rd.1]; exact hov
                have fk := hbk.rd.2 k
                have hkk : (k : Int) < (m2.ss.length : Int) := by omega
                have hbm := HMS.out bk rfl
                clear hbk hsz hov
                go_wp2_with fail
                exact ⟨⟨k + 1, by simp, by omega, HWS.out.set _ _ _, HBX.out.other _ (by omega), HKp.out.setCell _ _ (fun _ => ⟨by show t6 ≤ bk; omega, by show bk < W8.heap.size; omega⟩)⟩, by simp [intOf]; omega⟩
              · obtain rfl : k = m2.ss.length := by omega
                have HPD := Lib.hid (HPB.out.kept HKp.out (fun b x => .inr x))
                have HBD := Lib.hid (HBB.out.trans (HKp.out.below (fun b x => by omega) HBB.out.size))
                go_wp2_with fail
                go_meet
                case rel => exact ⟨sendL xs m2, sendL_len hx16, HPD.out.less (fun _ _ x => x.elim), HBD.out⟩
        case rest =>
          obtain ⟨ys, hy16, hP, hB⟩ := hcut
          have HPR := Lib.hid hP
          have HBR := Lib.hid hB
          clear hP hB HP7 HM7 HX7 HB7 c6 hx16 hl6 hwr hqr hs7
          go_wp2_with fail
          go_loopw [14] (fun iv_ wx => ∃ k : Nat, iv_ = .int .i64 k ∧ k ≤ 2 ∧ PI w.heap.size w.heap.size q (fun _ => False) wx ys ys ∧ Below w.heap.size w wx) (fun iv_ _ => 2 - (intOf iv_).toNat)
          · exact ⟨0, rfl, by omega, HPR.out, HBR.out⟩
          clear HPR HBR
          obtain ⟨tn, rfl, htn, hP, hB⟩ := hrel
          by_cases hlt2 : tn < 2
          · have htk : (tn : Int) < 2 := by omega
            have HPA := Lib.hid hP
            have HBA := Lib.hid hB
            clear hP hB
            go_wp2_with fail
            refine (pall HPA.out (by omega)).mono ?_
            rintro e w8 ⟨v8, rs, rfl, hrs, hrw, hb⟩
            have hs8 := hb.size
            have HP8 : Hid (PI w.heap.size w.heap.size q (fun b => wr.heap.size ≤ b ∧ b < w8.heap.size) w8 ys ys) := Lib.hid ((HPA.out.grow hb).less (fun b _ m => .inr m.1))
            have HB8 := Lib.hid (HBA.out.trans (hb.mono HBA.out.size))
            have HSP := Lib.hid (Rowsp.of hrw)
            have hmsl := hrw.msl
            rw [hrs] at hmsl
            have hrl : rs.length = ys.length := by rw [← hrs, List.length_map]
            have hvo : ∀ b, v8.ownBlock = some b → wr.heap.size ≤ b ∧ b < w8.heap.size := fun b e => hrw.own.lt b e
            have hko : ∀ r ∈ rs, ∀ b, r.kv.ownBlock = some b → (wr.heap.size ≤ b ∧ b < w8.heap.size) ∧ v8.ownBlock ≠ some b := fun r hr b e => ⟨(hrw.mw r hr).k.lt b e, fun e' => (hrw.ne r hr b e').1 e⟩
            have hks : ∀ r ∈ rs, (∃ p c, r.kv = .slice p r.m.ks.length c) ∧ r.m.ks.length ≤ 50 := fun r hr => ⟨owns_slice (hrw.mw r hr).k, (HPA.out.few.1 r.m (by rw [← hrs]; exact List.mem_map_of_mem hr)).1⟩
            have HKS := Lib.hid hks
            obtain ⟨p8, c8, rfl⟩ := owns_slice hrw.own
            rw [hrl] at hmsl hvo hko HSP ⊢
            have HMS := Lib.hid hmsl
            have HVO := Lib.hid hvo
            have HKO := Lib.hid hko
            have HRS := Lib.hid hrs
            have HRL := Lib.hid hrl
            obtain ⟨vq, hbq, hmq⟩ := HP8.out.ref
            obtain ⟨p9, c9, rfl⟩ := hmq.slice
            have HBQ := Lib.hid hbq
            have HMQ := Lib.hid hmq
            have hfy := HP8.out.few.1
            have HFY := Lib.hid hfy
            have hwB := HBA.out.size
            clear hb hrw hmsl hvo hko hrs hrl hbq hmq hfy hks
            go_wp2_with fail
            refine anyH_start 17 (fun w' => Below w8.heap.size w8 w') (by kernel_rfl) rfl ?_
            have hb0 : Below w8.heap.size w8 w8.drew := (Below.refl _ w8).drew
            ((first | (refine anyH_free (i := 0) (v := ?_) rfl (by kernel_rfl) (fun _ _ _ h => h) (Or.inl ⟨rfl, fun w' hS => ?_⟩) hb0 ?_; rotate_left; ((have cq := (HBQ.out.below hS).rd.1); go_simp <;> with_reducible rfl)) | (refine anyH_free (i := 0) (v := undef) rfl (by kernel_rfl) (fun _ _ _ h => h) (Or.inr ⟨rfl, rfl⟩) hb0 ?_)); (simp only [Act.put, List.setIfInBounds_toArray, List.set_cons_zero, List.set_cons_succ])); ((first | (refine anyH_free (i := 1) (v := ?_) rfl (by kernel_rfl) (fun _ _ _ h => h) (Or.inl ⟨rfl, fun w' hS => ?_⟩) hb0 ?_; rotate_left; ((have cq := (HBQ.out.below hS).rd.1); go_simp <;> with_reducible rfl)) | (refine anyH_free (i := 1) (v := undef) rfl (by kernel_rfl) (fun _ _ _ h => h) (Or.inr ⟨rfl, rfl⟩) hb0 ?_)); (simp only [Act.put, List.setIfInBounds_toArray, List.set_cons_zero, List.set_cons_succ])); ((first | (refine anyH_free (i := 2) (v := ?_) rfl (by kernel_rfl) (fun _ _ _ h => h) (Or.inl ⟨rfl, fun w' hS => ?_⟩) hb0 ?_; rotate_left; ((have cq := (HBQ.out.below hS).rd.1); go_simp <;> with_reducible rfl)) | (refine anyH_free (i := 2) (v := undef) rfl (by kernel_rfl) (fun _ _ _ h => h) (Or.inr ⟨rfl, rfl⟩) hb0 ?_)); (simp only [Act.put, List.setIfInBounds_toArray, List.set_cons_zero, List.set_cons_succ])); ((first | (refine anyH_free (i := 3) (v := ?_) rfl (by kernel_rfl) (fun _ _ _ h => h) (Or.inl ⟨rfl, fun w' hS => ?_⟩) hb0 ?_; rotate_left; ((have cq := (HBQ.out.below hS).rd.1); go_simp <;> with_reducible rfl)) | (refine anyH_free (i := 3) (v := undef) rfl (by kernel_rfl) (fun _ _ _ h => h) (Or.inr ⟨rfl, rfl⟩) hb0 ?_)); (simp only [Act.put, List.setIfInBounds_toArray, List.set_cons_zero, List.set_cons_succ])); ((first | (refine anyH_free (i := 4) (v := ?_) rfl (by kernel_rfl) (fun _ _ _ h => h) (Or.inl ⟨rfl, fun w' hS => ?_⟩) hb0 ?_; rotate_left; ((have cq := (HBQ.out.below hS).rd.1); go_simp <;> with_reducible rfl)) | (refine anyH_free (i := 4) (v := undef) rfl (by kernel_rfl) (fun _ _ _ h => h) (Or.inr ⟨rfl, rfl⟩) hb0 ?_)); (simp only [Act.put, List.setIfInBounds_toArray, List.set_cons_zero, List.set_cons_succ]))
            refine anyH_sole (i := 5) rfl (by kernel_rfl) rfl (fun K hK => ?_)
            go_simp
            refine (sames_any (HMS.out.below hb0) (HMQ.out.below hb0) HFY.out (by omega)).mono ?_
            rintro e w9 ⟨rfl, hb⟩
            have hb9 := hb0.trans (hb.mono hb0.size)
            refine hK _ _ hb9 ?_
            clear hK K hb
            ((first | (refine anyH_free (i := 6) (v := ?_) rfl (by kernel_rfl) (fun _ _ _ h => h) (Or.inl ⟨rfl, fun w' hS => ?_⟩) hb9 ?_; rotate_left; ((have cq := (HBQ.out.below hS).rd.1); go_simp <;> with_reducible rfl)) | (refine anyH_free (i := 6) (v := undef) rfl (by kernel_rfl) (fun _ _ _ h => h) (Or.inr ⟨rfl, rfl⟩) hb9 ?_)); (simp only [Act.put, List.setIfInBounds_toArray, List.set_cons_zero, List.set_cons_succ])); ((first | (refine anyH_free (i := 7) (v := ?_) rfl (by kernel_rfl) (fun _ _ _ h => h) (Or.inl ⟨rfl, fun w' hS => ?_⟩) hb9 ?_; rotate_left; ((have cq := (HBQ.out.below hS).rd.1); go_simp <;> with_reducible rfl)) | (refine anyH_free (i := 7) (v := undef) rfl (by kernel_rfl) (fun _ _ _ h => h) (Or.inr ⟨rfl, rfl⟩) hb9 ?_)); (simp only [Act.put, List.setIfInBounds_toArray, List.set_cons_zero, List.set_cons_succ])); ((first | (refine anyH_free (i := 8) (v := ?_) rfl (by kernel_rfl) (fun _ _ _ h => h) (Or.inl ⟨rfl, fun w' hS => ?_⟩) hb9 ?_; rotate_left; ((have cq := (HBQ.out.below hS).rd.1); go_simp <;> with_reducible rfl)) | (refine anyH_free (i := 8) (v := undef) rfl (by kernel_rfl) (fun _ _ _ h => h) (Or.inr ⟨rfl, rfl⟩) hb9 ?_)); (simp only [Act.put, List.setIfInBounds_toArray, List.set_cons_zero, List.set_cons_succ])); ((first | (refine anyH_free (i := 10) (v := ?_) rfl (by kernel_rfl) (fun _ _ _ h => h) (Or.inl ⟨rfl, fun w' hS => ?_⟩) hb9 ?_; rotate_left; ((have cq := (HBQ.out.below hS).rd.1); go_simp <;> with_reducible rfl)) | (refine anyH_free (i := 10) (v := undef) rfl (by kernel_rfl) (fun _ _ _ h => h) (Or.inr ⟨rfl, rfl⟩) hb9 ?_)); (simp only [Act.put, List.setIfInBounds_toArray, List.set_cons_zero, List.set_cons_succ])); ((first | (refine anyH_free (i := 11) (v := ?_) rfl (by kernel_rfl) (fun _ _ _ h => h) (Or.inl ⟨rfl, fun w' hS => ?_⟩) hb9 ?_; rotate_left; ((have cq := (HBQ.out.below hS).rd.1); go_simp <;> with_reducible rfl)) | (refine anyH_free (i := 11) (v := undef) rfl (by kernel_rfl) (fun _ _ _ h => h) (Or.inr ⟨rfl, rfl⟩) hb9 ?_)); (simp only [Act.put, List.setIfInBounds_toArray, List.set_cons_zero, List.set_cons_succ])); ((first | (refine anyH_free (i := 12) (v := ?_) rfl (by kernel_rfl) (fun _ _ _ h => h) (Or.inl ⟨rfl, fun w' hS => ?_⟩) hb9 ?_; rotate_left; ((have cq := (HBQ.out.below hS).rd.1); go_simp <;> with_reducible rfl)) | (refine anyH_free (i := 12) (v := undef) rfl (by kernel_rfl) (fun _ _ _ h => h) (Or.inr ⟨rfl, rfl⟩) hb9 ?_)); (simp only [Act.put, List.setIfInBounds_toArray, List.set_cons_zero, List.set_cons_succ])); ((first | (refine anyH_free (i := 13) (v := ?_) rfl (by kernel_rfl) (fun _ _ _ h => h) (Or.inl ⟨rfl, fun w' hS => ?_⟩) hb9 ?_; rotate_left; ((have cq := (HBQ.out.below hS).rd.1); go_simp <;> with_reducible rfl)) | (refine anyH_free (i := 13) (v := undef) rfl (by kernel_rfl) (fun _ _ _ h => h) (Or.inr ⟨rfl, rfl⟩) hb9 ?_)); (simp only [Act.put, List.setIfInBounds_toArray, List.set_cons_zero, List.set_cons_succ])); ((first | (refine anyH_free (i := 14) (v := ?_) rfl (by kernel_rfl) (fun _ _ _ h => h) (Or.inl ⟨rfl, fun w' hS => ?_⟩) hb9 ?_; rotate_left; ((have cq := (HBQ.out.below hS).rd.1); go_simp <;> with_reducible rfl)) | (refine anyH_free (i := 14) (v := undef) rfl (by kernel_rfl) (fun _ _ _ h => h) (Or.inr ⟨rfl, rfl⟩) hb9 ?_)); (simp only [Act.put, List.setIfInBounds_toArray, List.set_cons_zero, List.set_cons_succ]))
            refine anyH_sole (i := 9) rfl (by kernel_rfl) rfl (fun K hK => ?_)
            go_simp
            refine (plen (HP8.out.below hb9)).mono ?_
            rintro e w10 ⟨rfl, rfl⟩
            refine hK _ _ hb9 ?_
            clear hK K
            ((first | (refine anyH_free (i := 15) (v := ?_) rfl (by kernel_rfl) (fun _ _ _ h => h) (Or.inl ⟨rfl, fun w' hS => ?_⟩) hb9 ?_; rotate_left; (skip; go_simp <;> with_reducible rfl)) | (refine anyH_free (i := 15) (v := undef) rfl (by kernel_rfl) (fun _ _ _ h => h) (Or.inr ⟨rfl, rfl⟩) hb9 ?_)); (simp only [Act.put, List.setIfInBounds_toArray, List.set_cons_zero, List.set_cons_succ])); ((first | (refine anyH_free (i := 16) (v := ?_) rfl (by kernel_rfl) (fun _ _ _ h => h) (Or.inl ⟨rfl, fun w' hS => ?_⟩) hb9 ?_; rotate_left; (skip; go_simp <;> with_reducible rfl)) | (refine anyH_free (i := 16) (v := undef) rfl (by kernel_rfl) (fun _ _ _ h => h) (Or.inr ⟨rfl, rfl⟩) hb9 ?_)); (simp only [Act.put, List.setIfInBounds_toArray, List.set_cons_zero, List.set_cons_succ]))
            refine anyH_done (by kernel_rfl) ?_
            have HPB := Lib.hid (HP8.out.below hb9)
            have HBB := Lib.hid (HB8.out.trans (hb9.mono HB8.out.size))
            have HSPB := Lib.hid (HSP.out.below hb9)
            have hs9 := hb9.size
            clear hb0 hb9 HP8 HB8 HSP HMS HBQ HMQ
            go_wp2_with fail
            obtain ⟨A0, hA0⟩ : ∃ A0, wr.heap.size = A0 := ⟨_, rfl⟩
            rw [hA0] at HPB HVO HKO hs8 hwB
            clear hA0 HPA HBA
            go_loopw [16] (fun iv_ wx => ∃ k : Nat, iv_ = .int .i64 k ∧ k ≤ ys.length ∧ Rowsp wx (.slice p8 ys.length c8) rs ∧ Kept (fun b => A0 ≤ b ∧ b < w8.heap.size) w9 wx) (fun iv_ _ => ys.length - (intOf iv_).toNat)
            · exact ⟨0, rfl, by omega, HSPB.out, Kept.refl _ _⟩
            clear HSPB
            obtain ⟨k, rfl, hk, hsp, hkp⟩ := hrel
            have HSP := Lib.hid hsp
            have HKP := Lib.hid hkp
            clear hsp hkp
            by_cases hlk : k < ys.length
            · obtain ⟨⟨kv, sv, m⟩, hr⟩ : ∃ r, rs[k]? = some r := ⟨_, List.getElem?_eq_getElem (by rw [HRL.out]; exact hlk)⟩
              obtain ⟨⟨pk, ck, e3⟩, h50⟩ := HKS.out _ (List.mem_of_getElem? hr)
              simp only at e3 h50
              subst e3
              have hkb := (HKO.out _ (List.mem_of_getElem? hr))
              simp only at hkb
              have HKB := Lib.hid hkb
              have HRR := Lib.hid hr
              obtain ⟨g, c, cs, tt, e, hbx, hg1, hg2, hg3, hg4⟩ := HSP.out k _ hr
              have hgl : rs.length = ys.length := HRL.out
              simp only [Value.slice.injEq] at e
              obtain ⟨rfl, hl', rfl⟩ := e
              obtain ⟨ov, hov⟩ : ∃ ov, cs[k * 5 + 2]? = some ov := ⟨_, Array.getElem?_eq_getElem (by omega)⟩
              have cg : wr.cell? ⟨g, k * 5 + 2, none⟩ = some ov := by rw [hbx.rd.1]; exact hov
              have fg := hbx.rd.2 (k * 5 + 2)
              have hkk : (k : Int) < (ys.length : Int) := by omega
              have hgb := HVO.out g rfl
              have HS1 : Hid (Rowsp (wr.setCell ⟨g, k * 5 + 2, none⟩ (.int .i64 (-5))) (.slice (some ⟨g, 0, none⟩) ys.length c8) rs) := Lib.hid (HSP.out.row (by rw [HRL.out]) _)
              have HK1 : Hid (Kept (fun b => A0 ≤ b ∧ b < w8.heap.size) w9 (wr.setCell ⟨g, k * 5 + 2, none⟩ (.int .i64 (-5)))) := Lib.hid (HKP.out.setCell _ _ (fun _ => ⟨by show A0 ≤ g; omega, by show g < w8.heap.size; omega⟩))
              clear hr hkb hbx hg1 hg2 hg3 hg4 hl' hgl hov HSP HKP
              go_wp2_with fail
              go_loopw [17] (fun iv_ wx => ∃ j : Nat, iv_ = .int .i64 j ∧ j ≤ m.ks.length ∧ Rowsp wx (.slice (some ⟨g, 0, none⟩) ys.length c8) rs ∧ Kept (fun b => A0 ≤ b ∧ b < w8.heap.size) w9 wx) (fun iv_ _ => m.ks.length - (intOf iv_).toNat)
              · exact ⟨0, rfl, by omega, HS1.out, HK1.out⟩
              clear HS1 HK1 cg fg
              obtain ⟨j, rfl, hj, hsp, hkp⟩ := hrel
              have HSP := Lib.hid hsp
              have HKP := Lib.hid hkp
              clear hsp hkp
              obtain ⟨g', c, cs2, tt2, e, hbx, hg1, hg2, hg3, hg4⟩ := HSP.out k _ HRR.out
              have hgl : rs.length = ys.length := HRL.out
              simp only [Value.slice.injEq, Option.some.injEq, Addr.mk.injEq, and_true] at e
              obtain ⟨rfl, hl', rfl⟩ := e
              have cg : wr.cell? ⟨g, k * 5 + 3, none⟩ = some (.slice pk m.ks.length ck) := by rw [hbx.rd.1]; exact hg2
              by_cases hlj : j < m.ks.length
              · obtain ⟨bk, ck2, cs3, tt3, e, hbk, hsz⟩ := hg3 (by show 0 < m.ks.length; omega)
                simp only [Value.slice.injEq, true_and] at e
                obtain ⟨rfl, rfl⟩ := e
                obtain ⟨ov2, hov⟩ : ∃ ov, cs3[j]? = some ov := ⟨_, Array.getElem?_eq_getElem (by have : m.ks.length ≤ cs3.size := hsz; omega)⟩
                have cb : wr.cell? ⟨bk, j, none⟩ = some ov2 := by rw [hbk.rd.1]; exact hov
                have fb := hbk.rd.2 j
                have hjj : (j : Int) < (m.ks.length : Int) := by omega
                have hbm := (HKB.out bk rfl).1
                have hgn : (Value.slice (some ⟨g, 0, none⟩) ys.length c8).ownBlock ≠ some bk := (HKB.out bk rfl).2
                have HGN := Lib.hid hgn
                clear hbx hg1 hg2 hg3 hg4 hl' hgl hbk hsz hov hgn
                go_wp2_with fail
                exact ⟨⟨j + 1, by simp, by omega, HSP.out.key HGN.out _, HKP.out.setCell _ _ (fun _ => ⟨by show A0 ≤ bk; omega, by show bk < w8.heap.size; omega⟩)⟩, by simp [intOf]; omega⟩
              · obtain rfl : j = m.ks.length := by omega
                clear hbx hg1 hg2 hg3 hg4 hl' hgl
                go_wp2_with fail
                exact ⟨⟨k + 1, by simp, by omega, HSP.out, HKP.out⟩, by simp [intOf]; omega⟩
            · obtain rfl : k = ys.length := by omega
              have HPD := Lib.hid (HPB.out.kept HKP.out (fun b x => .inr x))
              have HBD := Lib.hid (HBB.out.trans (HKP.out.below (fun b x => by omega) HBB.out.size))
              go_wp2_with fail
              exact ⟨⟨tn + 1, by simp, by omega, HPD.out.less (fun _ _ x => x.elim), HBD.out⟩, by simp [intOf]; omega⟩
          · obtain rfl : tn = 2 := by omega
            go_wp2_with fail
            exact ⟨⟨i + 1, ys, by simp, by omega, hy16, hP, hB⟩, by simp [intOf]; omega⟩
    · obtain rfl : i = acts.length := by omega
      go_wp2_with fail
      go_ret
      exact ⟨rfl, hB⟩
  · have h1' : (100 : Int) < (acts.length : Int) := by omega
    clear h1 HL HR
    go_enter Try.func5, Try.ntmps5
    go_wp2_with fail
    go_ret
    exact ⟨rfl, Below.refl _ _⟩
end Go.Proofs.Ytmmneeikcnapmaa

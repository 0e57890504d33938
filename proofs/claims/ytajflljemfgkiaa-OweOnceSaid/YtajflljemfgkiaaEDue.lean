/- owe.Due -/
import Derived.Test.YtajflljemfgkiaaEMu3
import Derived.Test.YtajflljemfgkiaaETel
import Derived.Maps.OwnOps
namespace Go.Proofs.Ytajflljemfgkiaa
open Go.RowKit Go.Maps Mut
attribute [local go_sem] Oper.semAt_some
def dueB (rep at_ : Int) (x : Al) : Bool := decide (x.state = 2) && (decide (x.told < 0) || decide (rep ≤ at_ - x.told))
def dueS (rep at_ : Int) (out : List ByteArray) (x : Al) : List ByteArray := if (dueB rep at_ x && !hasK out x.by_) = true then out ++ [x.by_] else out
def dueK (rep : Int) (l : List Al) (at_ : Int) : List ByteArray := l.foldl (dueS rep at_) []
def dueL (R : Rl) (ms : List MuteD) (l : List Al) (at_ : Int) : List ByteArray := if mutedB ms R.mutes at_ = true then [] else dueK R.rep l at_
theorem dueK_snoc {rep at_ : Int} {l : List Al} {k : Nat} {x : Al} (h : l[k]? = some x) : dueK rep (l.take (k + 1)) at_ = dueS rep at_ (dueK rep (l.take k) at_) x := by
  rw [take_snoc' h]
  unfold dueK
  rw [List.foldl_append]
  rfl
theorem dueS_len (rep at_ : Int) (out : List ByteArray) (x : Al) : (dueS rep at_ out x).length ≤ out.length + 1 := by
  unfold dueS
  split <;> simp
theorem dueK_len (rep at_ : Int) (l : List Al) : (dueK rep l at_).length ≤ l.length := by
  unfold dueK
  have : ∀ (l : List Al) (o : List ByteArray), (l.foldl (dueS rep at_) o).length ≤ o.length + l.length := by
    intro l
    induction l with
    | nil => intro o; simp
    | cons x l ih =>
      intro o
      rw [List.foldl_cons, List.length_cons]
      have h1 := ih (dueS rep at_ o x)
      have h2 := dueS_len rep at_ o x
      omega
  have h := this l []
  simpa using h
theorem dueS_no {rep at_ : Int} {out : List ByteArray} {x : Al} (h : dueB rep at_ x = false ∨ hasK out x.by_ = true) : dueS rep at_ out x = out := by
  unfold dueS
  rw [if_neg]
  rcases h with h | h <;> simp [h]
theorem dueS_yes {rep at_ : Int} {out : List ByteArray} {x : Al} (h : dueB rep at_ x = true) (h2 : hasK out x.by_ = false) : dueS rep at_ out x = out ++ [x.by_] := by
  unfold dueS
  rw [if_pos (by simp [h, h2])]
theorem map_apart {W : World} {base n m b : Nat} {e : TypeId} {s : Nat} {v : Value} {xs : List Value} {f : ByteArray → Int} (h : W.ownsRow base e s v n xs) (hx : MapAt W b m f) : v.ownBlock ≠ some b := by
  intro hb
  obtain ⟨D, ⟨es, clock, hm, _⟩, _⟩ := hx
  rcases h.2 with ⟨rfl, _⟩ | ⟨g, cap, cur, rfl, _, hg, _⟩
  · cases hb
  · cases hb
    rw [hg] at hm
    cases hm
def DueTo (ks : List ByteArray) (w : World) (e : Ending) (w' : World) : Prop := ∃ v, e = .returned v ∧ w'.ownsRow w.heap.size 9 1 v ks.length (ks.flatMap encS) ∧ Below w.heap.size w w'
theorem cnt_no {l : List ByteArray} {s : ByteArray} (h : hasK l s = false) : cnt0 l s = 0 := by
  have h1 := cnt_has l s
  rw [h] at h1
  have h2 : ¬ 0 < cnt0 l s := by simpa using h1
  have h3 := (cnt0_le l s).1
  omega
set_option maxRecDepth 100000 in
set_option maxHeartbeats 8000000 in
theorem due_any {S T U : Nat → Prop} {R : Rl} {v2 v3 : Value} {ms : List MuteD} {l : List Al} {at_ : Int} {w : World} (hr : Ro S w R) (hm : Sl T w v2 10 encU ms) (hl : Sl U w v3 5 encA l) (hn : ms.length ≤ 100000) (hn2 : R.mutes.length ≤ 100000) (hn3 : l.length ≤ 100000) (hs : ∀ x ∈ l, x.by_.size ≤ maxLen) (hnear : NearP R l at_) :
    Calls Try.prog 21 #[rv R, v2, v3, .int .i64 at_] w (DueTo (dueL R ms l at_) w) := by
  have hb0 : Below w.heap.size w (w.alloc (.cells (rc R) 25)) := (Below.refl _ w).alloc (Nat.le_refl _) _
  have b4 := Box.new w (rc R) 25
  have hr0 : Ro S (w.alloc (.cells (rc R) 25)) R := ⟨hr.m.below hb0, hr.n⟩
  have HMU := Lib.hid (muted_any (at_ := at_) hr0 (hm.below hb0) hn hn2)
  have HL := Lib.hid (hl.below hb0)
  have hnv := hr.n
  have hmv := hr.m.oneCell
  obtain ⟨p2, c2, rfl, -, -⟩ := hm.len
  obtain ⟨p3, c3, rfl, -, -⟩ := hl.len
  obtain ⟨W0, hW0⟩ : ∃ W0, (w.alloc (.cells (rc R) 25)) = W0 := ⟨_, rfl⟩
  rw [hW0] at hb0 b4 HMU HL
  have HW0 := Lib.hid hW0
  have HB0 := Lib.hid hb0
  have H4 := Lib.hid b4
  have HS := Lib.hid hs
  have HNR := Lib.hid hnear
  obtain ⟨i0, hi, hi0, hi1, hi2⟩ := info_parts info_string
  have HI := Lib.hid hi
  have HI0 := Lib.hid hi0
  have HI1 := Lib.hid hi1
  have HI2 := Lib.hid hi2
  clear hr hm hl hr0 hb0 hW0 hs hnear hi hi0 hi1 hi2
  obtain ⟨nm, by0, nv, fr, ev, rp, mvv, mu, rt⟩ := R
  simp only at hnv hmv
  have c4 := b4.rd.1
  clear b4
  go_enter Try.func21, Try.ntmps21
  go_wp2_with fail
  rw [HW0.out]
  go_wp2_with fail
  refine HMU.out.mono ?_
  rintro e w1 ⟨rfl, hb⟩
  have HB1 := Lib.hid (HB0.out.trans (hb.mono HB0.out.size))
  have HB01 := Lib.hid hb
  have H41 := Lib.hid (H4.out.below hb)
  obtain ⟨q, hq⟩ : ∃ q, mutedB ms mu at_ = q := ⟨_, rfl⟩
  rw [hq]
  have HQ := Lib.hid hq
  have HSZ := Lib.hid hb.size
  clear hb hq c4 HMU
  cases q with
  | true =>
    go_wp2_with fail
    go_ret
    have e : dueL ⟨nm, by0, nv, fr, ev, rp, mvv, mu, rt⟩ ms l at_ = [] := by unfold dueL; rw [if_pos HQ.out]
    rw [e]
    exact ⟨_, rfl, World.ownsRow_nil _ _ _ _, HB1.out⟩
  | false =>
    have HMT := Lib.hid (met_any (l := []) (Sl.nil (fun _ => True) w1) (by simp) (fun s h => by simp at h))
    go_wp2_with fail
    refine HMT.out.mono ?_
    rintro e w2 ⟨b, rfl, hbs, hM, hb⟩
    have HB2 : Hid (Below W0.heap.size W0 w2) := Lib.hid (HB01.out.trans (hb.mono HB01.out.size))
    have HBS := Lib.hid (Nat.le_trans HSZ.out hbs)
    have HM2 := Lib.hid hM
    clear hb hM HMT HB1 hbs H41
    go_wp2_with fail
    go_loopw [9, 12, 20] (fun nv_ _ iv_ wr => ∃ (k : Nat) (q : Option Addr) (zs : List ByteArray) (d : Nat), nv_ = .slice q zs.length d ∧ iv_ = .int .i64 k ∧ k ≤ l.length ∧ zs = dueK rp (l.take k) at_ ∧ wr.ownsRow W0.heap.size 9 1 (.slice q zs.length d) zs.length (zs.flatMap encS) ∧ MapAt wr b zs.length (cnt0 zs) ∧ Below W0.heap.size W0 wr) (fun _ _ iv_ _ => l.length - (intOf iv_).toNat)
    · exact ⟨0, none, [], 0, rfl, rfl, by omega, rfl, World.ownsRow_nil _ _ _ _, HM2.out, HB2.out⟩
    clear HM2 HB2
    obtain ⟨k, q, zs, d, rfl, rfl, hk, hz, how, hM, hB⟩ := hrel
    have hzk := dueK_len rp at_ (l.take k)
    rw [← hz, List.length_take] at hzk
    have HZ := Lib.hid hz
    have HOW := Lib.hid how
    have HM := Lib.hid hM
    have HB := Lib.hid hB
    clear hz how hB
    by_cases hlt : k < l.length
    · obtain ⟨⟨r, by_, st, si, t⟩, hx⟩ : ∃ x, l[k]? = some x := ⟨_, List.getElem?_eq_getElem hlt⟩
      obtain ⟨ad, rfl, -, -, hrow⟩ := (HL.out.below HB.out).at hx
      obtain ⟨x0, x1, x2, x3, x4⟩ := cells_A hrow hx
      simp only at x0 x1 x2 x3 x4
      have hkk : (k : Int) < (l.length : Int) := by omega
      have hxm := List.mem_of_getElem? hx
      have hxs := HS.out _ hxm
      have hnt := HNR.out.1 _ hxm
      have hna := HNR.out.2
      simp only at hnt hna hxs
      have hb1 : Below wr.heap.size wr (wr.alloc (.cells (ac ⟨r, by_, st, si, t⟩) 39)) := (Below.refl _ wr).alloc (Nat.le_refl _) _
      have hM3 := hM.below hb1
      have hlook := hM3.look hxs
      have HB3 := Lib.hid (HB.out.trans (hb1.mono HB.out.size))
      have HM3 := Lib.hid hM3
      have HOW3 := Lib.hid (owns_keep HOW.out (fun b e => hb1.block b (HOW.out.lt b e).2))
      have c4 := ((H4.out.below HB.out).below hb1).rd.1
      have HSN := Lib.hid (dueK_snoc (rep := rp) (at_ := at_) hx)
      rw [← HZ.out] at HSN
      have HW : Hid (wrap64 (at_ - t) = at_ - t) := Lib.hid (IntWalk.wrap64_in _ ⟨by omega, by omega⟩)
      have HXS := Lib.hid hxs
      have hch := cnt_has zs by_
      obtain ⟨q1, e1⟩ : ∃ q, (st != 2) = q := ⟨_, rfl⟩
      obtain ⟨q2, e2⟩ : ∃ q, decide (0 ≤ t) = q := ⟨_, rfl⟩
      obtain ⟨q3, e3⟩ : ∃ q, decide (wrap64 (at_ - t) < rp) = q := ⟨_, rfl⟩
      have HDB : Hid (dueB rp at_ ⟨r, by_, st, si, t⟩ = (!q1 && !(q2 && q3))) := Lib.hid (by
        rw [← e1, ← e2, ← e3, HW.out]
        unfold dueB
        simp only
        rw [Bool.eq_iff_iff]
        simp)
      clear hx hrow hM hb1 hM3 hxm hxs hnt hna
      have skip : ∀ (a : Value), (dueB rp at_ ⟨r, by_, st, si, t⟩ = false ∨ hasK zs by_ = true) → ∃ (k' : Nat) (q' : Option Addr) (zs' : List ByteArray) (d' : Nat), Value.slice q zs.length d = .slice q' zs'.length d' ∧ Value.int .i64 ((k : Int) + 1) = .int .i64 k' ∧ k' ≤ l.length ∧ zs' = dueK rp (l.take k') at_ ∧ (wr.alloc (.cells (ac ⟨r, by_, st, si, t⟩) 39)).ownsRow W0.heap.size 9 1 (.slice q' zs'.length d') zs'.length (zs'.flatMap encS) ∧ MapAt (wr.alloc (.cells (ac ⟨r, by_, st, si, t⟩) 39)) b zs'.length (cnt0 zs') ∧ Below W0.heap.size W0 (wr.alloc (.cells (ac ⟨r, by_, st, si, t⟩) 39)) :=
        fun _ h => ⟨k + 1, q, zs, d, rfl, by simp, by omega, by rw [HSN.out]; exact (dueS_no h).symm, HOW3.out, HM3.out, HB3.out⟩
      have SK := Lib.hid skip
      clear skip
      cases q1 with
      | true =>
        have HF : Hid (dueB rp at_ ⟨r, by_, st, si, t⟩ = false) := Lib.hid (by rw [HDB.out]; rfl)
        clear e2 e3 hlook hch
        go_wp2_with fail
        exact ⟨SK.out undef (.inl HF.out), by simp [intOf]; omega⟩
      | false =>
        cases q2 with
        | true =>
          cases q3 with
          | true =>
            have HF : Hid (dueB rp at_ ⟨r, by_, st, si, t⟩ = false) := Lib.hid (by rw [HDB.out]; rfl)
            clear hlook hch
            go_wp2_with fail
            exact ⟨SK.out undef (.inl HF.out), by simp [intOf]; omega⟩
          | false =>
            have HT : Hid (dueB rp at_ ⟨r, by_, st, si, t⟩ = true) := Lib.hid (by rw [HDB.out]; rfl)
            cases hhas : hasK zs by_ with
            | true =>
              rw [hhas] at hch
              have HH := Lib.hid hhas
              clear hhas
              go_wp2_with fail
              exact ⟨SK.out undef (.inr HH.out), by simp [intOf]; omega⟩
            | false =>
              rw [hhas] at hch
              have hN := cnt_no hhas
              rw [hN] at hlook hch
              have HC : Hid ((fun t => if t = by_ then 1 else cnt0 zs t) = cnt0 (zs ++ [by_])) := Lib.hid (by have := cnt_fun zs by_; rw [hN] at this; simpa using this)
              have HST : Hid (dueK rp (l.take (k + 1)) at_ = zs ++ [by_]) := Lib.hid (by rw [HSN.out]; exact dueS_yes HT.out hhas)
              have HAP := Lib.hid (map_apart HOW3.out HM3.out)
              clear hhas hN SK
              go_wp2_with (first | (at_mapUpdate; refine step_update rfl _ _ _ rfl rfl rfl rfl HM3.out (by unfold maxLen; omega) HXS.out (c := 1) (by decide) ?_; intro w4 hM4 hk4; have hx4 := (Box.new wr (ac ⟨r, by_, st, si, t⟩) 39).kept hk4 (by have := HM.out.lt; omega); have c12 := hx4.rd.1) | (at_builtin; refine wpList_append_sl encS_len rfl (.tmp 53) (.tmp 56) 23 rfl W0.heap.size 9 i0 _ 16 Try.underlying23 HI.out HI0.out HI1.out HI2.out rfl (by decide) (v := .slice q zs.length d) (xs := zs) (ys := [by_]) (by rfl) (by rfl) (owns_keep HOW3.out (fun b' e => (Below.heap_alloc _ _ _ (Nat.lt_of_lt_of_le (HOW3.out.lt b' e).2 hk4.size)).trans (hk4.block b' (HOW3.out.lt b' e).2 (fun e' => HAP.out (by rw [e, e']))))) (Sl.one (S := fun _ => True) encS_len (Box.new _ _ _) rfl trivial) (by simp [Value.oneCell']) (by simp only [List.length_cons, List.length_nil]; unfold maxLen; omega) (by simp only [List.length_cons, List.length_nil]; omega) (by have := hk4.size; have := HB3.out.size; rw [World.size_alloc]; omega) ?_; intro v5 w5 hown5 hk5 hat5; obtain ⟨q5, d5, rfl⟩ := owns_slice hown5))
              have hle : (zs ++ [by_]).length = zs.length + 1 := by simp
              have hM5 : MapAt w5 b (zs.length + 1) (cnt0 (zs ++ [by_])) := by
                rw [HC.out] at hM4
                exact (hM4.below ((Below.refl _ w4).alloc (Nat.le_refl _) _)).kept hk5 HAP.out
              have hb5 : Below W0.heap.size W0 w5 := HB3.out.trans ((hk4.below (fun i e => by have := HBS.out; omega) HB3.out.size).trans ((((Below.refl _ w4).alloc (Nat.le_refl _) _).mono (Nat.le_trans HB3.out.size hk4.size)).trans (hk5.below (fun i e => (HOW3.out.lt i e).1) (by have := hk4.size; have := HB3.out.size; rw [World.size_alloc]; omega))))
              refine ⟨⟨k + 1, q5, zs ++ [by_], d5, by simp, by simp, by omega, HST.out.symm, hown5, by rw [hle]; exact hM5, hb5⟩, by simp [intOf]; omega⟩
        | false =>
          have HT : Hid (dueB rp at_ ⟨r, by_, st, si, t⟩ = true) := Lib.hid (by rw [HDB.out]; rfl)
          cases hhas : hasK zs by_ with
          | true =>
            rw [hhas] at hch
            have HH := Lib.hid hhas
            clear hhas
            go_wp2_with fail
            exact ⟨SK.out undef (.inr HH.out), by simp [intOf]; omega⟩
          | false =>
            rw [hhas] at hch
            have hN := cnt_no hhas
            rw [hN] at hlook hch
            have HC : Hid ((fun t => if t = by_ then 1 else cnt0 zs t) = cnt0 (zs ++ [by_])) := Lib.hid (by have := cnt_fun zs by_; rw [hN] at this; simpa using this)
            have HST : Hid (dueK rp (l.take (k + 1)) at_ = zs ++ [by_]) := Lib.hid (by rw [HSN.out]; exact dueS_yes HT.out hhas)
            have HAP := Lib.hid (map_apart HOW3.out HM3.out)
            clear hhas hN SK
            go_wp2_with (first | (at_mapUpdate; refine step_update rfl _ _ _ rfl rfl rfl rfl HM3.out (by unfold maxLen; omega) HXS.out (c := 1) (by decide) ?_; intro w4 hM4 hk4; have hx4 := (Box.new wr (ac ⟨r, by_, st, si, t⟩) 39).kept hk4 (by have := HM.out.lt; omega); have c12 := hx4.rd.1) | (at_builtin; refine wpList_append_sl encS_len rfl (.tmp 53) (.tmp 56) 23 rfl W0.heap.size 9 i0 _ 16 Try.underlying23 HI.out HI0.out HI1.out HI2.out rfl (by decide) (v := .slice q zs.length d) (xs := zs) (ys := [by_]) (by rfl) (by rfl) (owns_keep HOW3.out (fun b' e => (Below.heap_alloc _ _ _ (Nat.lt_of_lt_of_le (HOW3.out.lt b' e).2 hk4.size)).trans (hk4.block b' (HOW3.out.lt b' e).2 (fun e' => HAP.out (by rw [e, e']))))) (Sl.one (S := fun _ => True) encS_len (Box.new _ _ _) rfl trivial) (by simp [Value.oneCell']) (by simp only [List.length_cons, List.length_nil]; unfold maxLen; omega) (by simp only [List.length_cons, List.length_nil]; omega) (by have := hk4.size; have := HB3.out.size; rw [World.size_alloc]; omega) ?_; intro v5 w5 hown5 hk5 hat5; obtain ⟨q5, d5, rfl⟩ := owns_slice hown5))
            have hle : (zs ++ [by_]).length = zs.length + 1 := by simp
            have hM5 : MapAt w5 b (zs.length + 1) (cnt0 (zs ++ [by_])) := by
              rw [HC.out] at hM4
              exact (hM4.below ((Below.refl _ w4).alloc (Nat.le_refl _) _)).kept hk5 HAP.out
            have hb5 : Below W0.heap.size W0 w5 := HB3.out.trans ((hk4.below (fun i e => by have := HBS.out; omega) HB3.out.size).trans ((((Below.refl _ w4).alloc (Nat.le_refl _) _).mono (Nat.le_trans HB3.out.size hk4.size)).trans (hk5.below (fun i e => (HOW3.out.lt i e).1) (by have := hk4.size; have := HB3.out.size; rw [World.size_alloc]; omega))))
            refine ⟨⟨k + 1, q5, zs ++ [by_], d5, by simp, by simp, by omega, HST.out.symm, hown5, by rw [hle]; exact hM5, hb5⟩, by simp [intOf]; omega⟩
    · obtain rfl : k = l.length := by omega
      rw [List.take_length] at HZ
      have HE : Hid (dueL ⟨nm, by0, nv, fr, ev, rp, mvv, mu, rt⟩ ms l at_ = zs) := Lib.hid (by unfold dueL; rw [if_neg (by simp only; rw [HQ.out]; simp), HZ.out])
      clear hM hzk
      go_wp2_with fail
      go_ret
      rw [HE.out]
      exact ⟨_, rfl, owns_lower HOW.out HB0.out.size, HB0.out.trans (HB.out.mono HB0.out.size)⟩
end Go.Proofs.Ytajflljemfgkiaa

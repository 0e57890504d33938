/- Plain law of mutes: when one is silent; its stretches; when that changes. No program in sight. -/
import Derived.RowKit
namespace Go.Proofs.Ytajflljemfgkiaa.Mut

structure MuteD where
  nm : ByteArray
  d0 : Bool
  d1 : Bool
  d2 : Bool
  d3 : Bool
  d4 : Bool
  d5 : Bool
  d6 : Bool
  f : Int
  t : Int

def MuteD.day (m : MuteD) (k : Int) : Bool := if k = 0 then m.d0 else if k = 1 then m.d1 else if k = 2 then m.d2 else if k = 3 then m.d3 else if k = 4 then m.d4 else if k = 5 then m.d5 else m.d6
def MuteD.ok (m : MuteD) : Prop := 0 ≤ m.f ∧ m.f < 1440 ∧ 1 ≤ m.t ∧ m.t ≤ 1440
instance (m : MuteD) : Decidable m.ok := by unfold MuteD.ok; exact inferInstance
/-- the end, counted from the begin of the day on which the stretch begins -/
def MuteD.hi (m : MuteD) : Int := if m.t ≤ m.f then m.t + 1440 else m.t
/-- does a stretch begin on day q? -/
def MuteD.on (m : MuteD) (q : Int) : Prop := 0 ≤ q ∧ q ≤ 763549741 ∧ m.day ((q + 3) % 7) = true
instance (m : MuteD) (q : Int) : Decidable (m.on q) := by unfold MuteD.on; exact inferInstance
/-- silent at minute n -/
def Sil (m : MuteD) (n : Int) : Prop := 0 ≤ n ∧ n ≤ 1099511627776 ∧ m.ok ∧ ((m.on (n / 1440 - 1) ∧ m.t ≤ m.f ∧ n % 1440 < m.t) ∨ (m.on (n / 1440) ∧ m.f ≤ n % 1440 ∧ (m.t ≤ m.f ∨ n % 1440 < m.t)))
instance (m : MuteD) (n : Int) : Decidable (Sil m n) := by unfold Sil; exact inferInstance
def sil (m : MuteD) (n : Int) : Bool := decide (Sil m n)

/-- the stretches that begin on k days from day q on -/
def strl (m : MuteD) (q : Int) : Nat → List (Int × Int)
  | 0 => []
  | k + 1 => strl m q k ++ if m.on (q + k) then [(1440 * (q + k) + m.f, 1440 * (q + k) + m.hi)] else []
theorem mem_strl {m : MuteD} {q : Int} {k : Nat} {p : Int × Int} : p ∈ strl m q k ↔ ∃ i : Nat, i < k ∧ m.on (q + i) ∧ p = (1440 * (q + i) + m.f, 1440 * (q + i) + m.hi) := by
  induction k with
  | zero => simp [strl]
  | succ k ih =>
    unfold strl
    rw [List.mem_append, ih]
    constructor
    · rintro (⟨i, h1, h2, h3⟩ | h)
      · exact ⟨i, by omega, h2, h3⟩
      · split at h
        · rename_i ho
          exact ⟨k, by omega, ho, by simpa using h⟩
        · cases h
    · rintro ⟨i, h1, h2, h3⟩
      by_cases hi : i < k
      · exact .inl ⟨i, hi, h2, h3⟩
      · obtain rfl : i = k := by omega
        right; rw [if_pos h2]; simp [h3]

/-- the stretches, as the code goes over them: none where the mute may not be -/
def strs (m : MuteD) (n : Int) (k : Nat) : List (Int × Int) := if m.ok then strl m (n / 1440 - 1) k else []

theorem sil_iff (m : MuteD) (n : Int) (h0 : 0 ≤ n) (h1 : n ≤ 1099511627776) : Sil m n ↔ ∃ p ∈ strs m n 2, p.1 ≤ n ∧ n < p.2 := by
  unfold strs
  by_cases hok : m.ok
  · rw [if_pos hok]
    have hok' := hok
    obtain ⟨a, b, c, d⟩ := hok'
    constructor
    · rintro ⟨_, _, _, h | h⟩
      · refine ⟨_, mem_strl.2 ⟨0, by omega, by simpa using h.1, rfl⟩, ?_⟩
        simp only [MuteD.hi]; rw [if_pos h.2.1]
        have := h.2.2
        constructor <;> simp <;> omega
      · refine ⟨_, mem_strl.2 ⟨1, by omega, by have := h.1; rwa [show n / 1440 - 1 + ((1 : Nat) : Int) = n / 1440 from by omega], rfl⟩, ?_⟩
        have := h.2.1
        have := h.2.2
        simp only [MuteD.hi]
        split <;> constructor <;> simp <;> omega
    · rintro ⟨p, hp, h2, h3⟩
      obtain ⟨i, hi, ho, rfl⟩ := mem_strl.1 hp
      refine ⟨h0, h1, hok, ?_⟩
      simp only [MuteD.hi] at h2 h3
      rcases (show i = 0 ∨ i = 1 by omega) with rfl | rfl
      · left
        simp at ho h2 h3
        refine ⟨ho, ?_⟩
        split at h3 <;> constructor <;> omega
      · right
        rw [show n / 1440 - 1 + ((1 : Nat) : Int) = n / 1440 from by omega] at ho h2 h3
        refine ⟨ho, by omega, ?_⟩
        split at h3 <;> omega
  · rw [if_neg hok]
    constructor
    · rintro ⟨_, _, h, _⟩; exact absurd h hok
    · rintro ⟨p, hp, _⟩; cases hp

/-- a week later it is the same, but for the first day -/
theorem sil_week (m : MuteD) (n : Int) (h0 : 1440 ≤ n) (h1 : n + 10080 ≤ 1099511627776) : Sil m (n + 10080) ↔ Sil m n := by
  have e1 : (n + 10080) / 1440 = n / 1440 + 7 := by omega
  have e2 : (n + 10080) % 1440 = n % 1440 := by omega
  have eo : ∀ q, 0 ≤ q → q + 7 ≤ 763549741 → (m.on (q + 7) ↔ m.on q) := fun q hq hq2 => by
    unfold MuteD.on
    rw [show (q + 7 + 3) % 7 = (q + 3) % 7 from by omega]
    constructor
    · rintro ⟨a, b, c⟩; exact ⟨hq, by omega, c⟩
    · rintro ⟨a, b, c⟩; exact ⟨by omega, hq2, c⟩
  unfold Sil
  rw [e1, e2, show n / 1440 + 7 - 1 = n / 1440 - 1 + 7 from by omega, eo _ (by omega) (by omega), eo _ (by omega) (by omega)]
  constructor
  · rintro ⟨_, _, h⟩; exact ⟨by omega, by omega, h⟩
  · rintro ⟨_, _, h⟩; exact ⟨by omega, by omega, h⟩

/-- where it changes there is a stretch's begin or end -/
theorem change_bound (m : MuteD) (x : Int) (h0 : 1 ≤ x) (h1 : x ≤ 1099511627776) (hc : ¬ (Sil m x ↔ Sil m (x - 1))) :
    m.ok ∧ ((m.on (x / 1440 - 1) ∧ x = 1440 * (x / 1440 - 1) + m.hi) ∨ (m.on (x / 1440) ∧ (x = 1440 * (x / 1440) + m.f ∨ x = 1440 * (x / 1440) + m.hi)) ∨ (m.on (x / 1440 - 2) ∧ x = 1440 * (x / 1440 - 2) + m.hi)) := by
  by_cases hok : m.ok
  · refine ⟨hok, ?_⟩
    obtain ⟨a, b, c, d⟩ := hok
    have hS : ∀ n, 0 ≤ n → n ≤ 1099511627776 → (Sil m n ↔ ((m.on (n / 1440 - 1) ∧ m.t ≤ m.f ∧ n % 1440 < m.t) ∨ (m.on (n / 1440) ∧ m.f ≤ n % 1440 ∧ (m.t ≤ m.f ∨ n % 1440 < m.t)))) := fun n h0 h1 => by
      unfold Sil
      constructor
      · rintro ⟨_, _, _, h⟩; exact h
      · intro h; exact ⟨h0, h1, ⟨a, b, c, d⟩, h⟩
    rw [hS x (by omega) h1, hS (x - 1) (by omega) (by omega)] at hc
    unfold MuteD.hi
    by_cases hd : x % 1440 = 0
    · have e1 : (x - 1) / 1440 = x / 1440 - 1 := by omega
      have e2 : (x - 1) % 1440 = 1439 := by omega
      rw [e1, e2] at hc
      by_cases ht : m.t ≤ m.f
      · rw [if_pos ht]
        by_cases o1 : m.on (x / 1440 - 1) <;> by_cases o2 : m.on (x / 1440) <;> by_cases o3 : m.on (x / 1440 - 1 - 1) <;> simp [o1, o2, o3, ht] at hc ⊢ <;> omega
      · rw [if_neg ht]
        by_cases o1 : m.on (x / 1440 - 1) <;> by_cases o2 : m.on (x / 1440) <;> by_cases o3 : m.on (x / 1440 - 1 - 1) <;> simp [o1, o2, o3, ht] at hc ⊢ <;> omega
    · have e1 : (x - 1) / 1440 = x / 1440 := by omega
      have e2 : (x - 1) % 1440 = x % 1440 - 1 := by omega
      rw [e1, e2] at hc
      by_cases ht : m.t ≤ m.f
      · rw [if_pos ht]
        by_cases o1 : m.on (x / 1440 - 1) <;> by_cases o2 : m.on (x / 1440) <;> simp [o1, o2, ht] at hc ⊢ <;> omega
      · rw [if_neg ht]
        by_cases o1 : m.on (x / 1440 - 1) <;> by_cases o2 : m.on (x / 1440) <;> simp [o1, o2, ht] at hc ⊢ <;> omega
  · exfalso
    apply hc
    constructor
    · intro h; exact absurd h.2.2.1 hok
    · intro h; exact absurd h.2.2.1 hok

/-! ### when that changes -/
def Chg (m : MuteD) (n x : Int) : Prop := n < x ∧ x ≤ 1099511627776 ∧ ¬ (Sil m x ↔ Sil m n)
instance (m : MuteD) (n x : Int) : Decidable (Chg m n x) := by unfold Chg; exact inferInstance
/-- v tells when what is at n changes; -1: never -/
def IsNext (m : MuteD) (n v : Int) : Prop :=
  (v = -1 ∧ ∀ x, ¬ Chg m n x) ∨ (Chg m n v ∧ v ≤ n + 11520 ∧ ∀ x, n < x → x < v → ¬ Chg m n x)
theorem IsNext.unique {m : MuteD} {n v v' : Int} (h : IsNext m n v) (h' : IsNext m n v') : v = v' := by
  rcases h with ⟨h1, h2⟩ | ⟨h1, h2, h3⟩ <;> rcases h' with ⟨k1, k2⟩ | ⟨k1, k2, k3⟩
  · omega
  · exact absurd k1 (h2 _)
  · exact absurd h1 (k2 _)
  · rcases Int.lt_trichotomy v v' with c | c | c
    · exact absurd h1 (k3 v h1.1 c)
    · exact c
    · exact absurd k1 (h3 v' k1.1 c)
/-- the first change comes within eight days -/
theorem first_within {m : MuteD} {n x : Int} (h0 : 0 ≤ n) (hx : Chg m n x) (hf : ∀ y, n < y → y < x → ¬ Chg m n y) : x ≤ n + 11520 := by
  rcases Int.lt_or_le (n + 11520) x with c | c
  · exfalso
    have hw := sil_week m (x - 10080) (by omega) (by have := hx.2.1; omega)
    rw [show x - 10080 + 10080 = x from by omega] at hw
    exact hf (x - 10080) (by omega) (by omega) ⟨by omega, by have := hx.2.1; omega, fun h => hx.2.2 (hw.trans h)⟩
  · exact c
theorem least_change {m : MuteD} {n x : Int} (hx : Chg m n x) : ∃ y, Chg m n y ∧ y ≤ x ∧ ∀ z, n < z → z < y → ¬ Chg m n z := by
  have key : ∀ (k : Nat) (x : Int), x - n ≤ k → Chg m n x → ∃ y, Chg m n y ∧ y ≤ x ∧ ∀ z, n < z → z < y → ¬ Chg m n z := by
    intro k
    induction k with
    | zero => intro x hk hx; have := hx.1; omega
    | succ k ih =>
      intro x hk hx
      by_cases he : ∃ z, z < x ∧ Chg m n z
      · obtain ⟨z, hz, hc⟩ := he
        obtain ⟨y, h1, h2, h3⟩ := ih z (by omega) hc
        exact ⟨y, h1, by omega, h3⟩
      · exact ⟨x, hx, Int.le_refl _, fun z _ hz hc => he ⟨z, hz, hc⟩⟩
  exact key (x - n).toNat x (by omega) hx

/-- of some minutes the first one at which it has changed -/
def Best (m : MuteD) (n : Int) (pts : List Int) (v : Int) : Prop :=
  (v = -1 ∧ ∀ x ∈ pts, ¬ Chg m n x) ∨ (Chg m n v ∧ ∀ x ∈ pts, Chg m n x → v ≤ x)
/-- the begins and ends of stretches -/
def pts (l : List (Int × Int)) : List Int := l.flatMap fun p => [p.1, p.2]
theorem pts_snoc (l : List (Int × Int)) (p : Int × Int) : pts (l ++ [p]) = pts l ++ [p.1] ++ [p.2] := by simp [pts]
theorem mem_pts {l : List (Int × Int)} {p : Int × Int} (h : p ∈ l) : p.1 ∈ pts l ∧ p.2 ∈ pts l := by
  unfold pts
  exact ⟨List.mem_flatMap.2 ⟨p, h, by simp⟩, List.mem_flatMap.2 ⟨p, h, by simp⟩⟩
theorem chg_in {m : MuteD} {n x : Int} (h0 : 0 ≤ n) (hx : Chg m n x) (hf : ∀ y, n < y → y < x → ¬ Chg m n y) : ∃ p ∈ strs m n 10, x = p.1 ∨ x = p.2 := by
  have h1 := first_within h0 hx hf
  have hc : ¬ (Sil m x ↔ Sil m (x - 1)) := fun h => hx.2.2 (by
    rw [h]
    rcases Int.lt_or_le n (x - 1) with c | c
    · by_cases hh : Sil m (x - 1) ↔ Sil m n
      · exact hh
      · exact absurd ⟨c, by have := hx.2.1; omega, hh⟩ (hf (x - 1) c (by omega))
    · have : x - 1 = n := by have := hx.1; omega
      rw [this])
  obtain ⟨hok, hb⟩ := change_bound m x (by have := hx.1; omega) hx.2.1 hc
  have hok' := hok
  obtain ⟨a, b, c, d⟩ := hok'
  have hq1 : n / 1440 ≤ x / 1440 := by have := hx.1; omega
  have hq2 : x / 1440 ≤ n / 1440 + 8 := by omega
  unfold strs
  rw [if_pos hok]
  have mk : ∀ q, n / 1440 - 1 ≤ q → q ≤ n / 1440 + 8 → m.on q → (1440 * q + m.f, 1440 * q + m.hi) ∈ strl m (n / 1440 - 1) 10 := fun q h1 h2 ho =>
    mem_strl.2 ⟨(q - (n / 1440 - 1)).toNat, by omega, by rwa [show n / 1440 - 1 + ((q - (n / 1440 - 1)).toNat : Int) = q from by omega], by rw [show n / 1440 - 1 + ((q - (n / 1440 - 1)).toNat : Int) = q from by omega]⟩
  rcases hb with ⟨ho, e⟩ | ⟨ho, e | e⟩ | ⟨ho, e⟩
  · exact ⟨_, mk _ (by omega) (by omega) ho, .inr e⟩
  · exact ⟨_, mk _ (by omega) (by omega) ho, .inl e⟩
  · exact ⟨_, mk _ (by omega) (by omega) ho, .inr e⟩
  · exfalso
    unfold MuteD.hi at e
    split at e <;> omega
theorem best_next {m : MuteD} {n v : Int} (h0 : 0 ≤ n) (h : Best m n (pts (strs m n 10)) v) : IsNext m n v := by
  rcases h with ⟨h1, h2⟩ | ⟨h1, h2⟩
  · refine .inl ⟨h1, fun x hx => ?_⟩
    obtain ⟨y, hy, _, hf⟩ := least_change hx
    obtain ⟨p, hp, e⟩ := chg_in h0 hy hf
    rcases e with rfl | rfl
    · exact h2 _ (mem_pts hp).1 hy
    · exact h2 _ (mem_pts hp).2 hy
  · obtain ⟨y, hy, hle, hf⟩ := least_change h1
    obtain ⟨p, hp, e⟩ := chg_in h0 hy hf
    have hv : v ≤ y := by
      rcases e with rfl | rfl
      · exact h2 _ (mem_pts hp).1 hy
      · exact h2 _ (mem_pts hp).2 hy
    obtain rfl : v = y := by omega
    exact .inr ⟨h1, first_within h0 h1 hf, hf⟩
theorem Best.nil (m : MuteD) (n : Int) : Best m n [] (-1) := .inl ⟨rfl, fun p hp => by cases hp⟩
/-- the code's step at one minute -/
def step (m : MuteD) (n v x : Int) : Int := if Chg m n x ∧ (v < 0 ∨ x < v) then x else v
theorem Best.snoc {m : MuteD} {n v : Int} {l : List Int} (h0 : 0 ≤ n) (h : Best m n l v) (x : Int) : Best m n (l ++ [x]) (step m n v x) := by
  unfold step
  rcases h with ⟨h1, h2⟩ | ⟨h1, h2⟩
  · subst h1
    by_cases c1 : Chg m n x
    · rw [if_pos ⟨c1, .inl (by omega)⟩]
      refine .inr ⟨c1, fun r hr hc => ?_⟩
      rcases List.mem_append.1 hr with hr | hr
      · exact absurd hc (h2 r hr)
      · obtain rfl : r = x := by simpa using hr
        exact Int.le_refl _
    · rw [if_neg (fun h => c1 h.1)]
      refine .inl ⟨rfl, fun r hr => ?_⟩
      rcases List.mem_append.1 hr with hr | hr
      · exact h2 r hr
      · obtain rfl : r = x := by simpa using hr
        exact c1
  · have hv0 : ¬ v < 0 := by have := h1.1; omega
    by_cases c : Chg m n x ∧ (v < 0 ∨ x < v)
    · rw [if_pos c]
      refine .inr ⟨c.1, fun r hr hc => ?_⟩
      rcases List.mem_append.1 hr with hr | hr
      · have := h2 r hr hc; omega
      · obtain rfl : r = x := by simpa using hr
        exact Int.le_refl _
    · rw [if_neg c]
      refine .inr ⟨h1, fun r hr hc => ?_⟩
      rcases List.mem_append.1 hr with hr | hr
      · exact h2 r hr hc
      · obtain rfl : r = x := by simpa using hr
        rcases Int.lt_or_le r v with c' | c'
        · exact absurd ⟨hc, .inr c'⟩ c
        · exact c'

/-- the reference's way: minute by minute -/
def scan (m : MuteD) (n : Int) : Nat → Int → Int
  | 0, _ => -1
  | k + 1, x => if x ≤ 1099511627776 then (if sil m x = sil m n then scan m n k (x + 1) else x) else -1
theorem sil_eq (m : MuteD) (x n : Int) : sil m x = sil m n ↔ (Sil m x ↔ Sil m n) := by unfold sil; rw [Bool.eq_iff_iff]; simp
theorem scan_next (m : MuteD) (n : Int) (h0 : 0 ≤ n) : ∀ (k : Nat) (x : Int), n + 12961 - x = k → n < x → (∀ y, n < y → y < x → ¬ Chg m n y) → IsNext m n (scan m n k x) := by
  intro k
  induction k with
  | zero =>
    intro x hk hx hf
    refine .inl ⟨rfl, fun y hy => ?_⟩
    obtain ⟨z, hz, _, hl⟩ := least_change hy
    have := first_within h0 hz hl
    exact hf z hz.1 (by omega) hz
  | succ k ih =>
    intro x hk hx hf
    unfold scan
    by_cases c1 : x ≤ 1099511627776
    · rw [if_pos c1]
      by_cases c2 : sil m x = sil m n
      · rw [if_pos c2]
        refine ih (x + 1) (by omega) (by omega) (fun y h1 h2 => ?_)
        by_cases e : y = x
        · subst e
          intro hc; exact hc.2.2 ((sil_eq m y n).1 c2)
        · exact hf y h1 (by omega)
      · rw [if_neg c2]
        have hc : Chg m n x := ⟨hx, c1, fun h => c2 ((sil_eq m x n).2 h)⟩
        exact .inr ⟨hc, first_within h0 hc hf, hf⟩
    · rw [if_neg c1]
      refine .inl ⟨rfl, fun y hy => ?_⟩
      exact hf y hy.1 (by have := hy.2.1; omega) hy
/-- when what is at n changes, or -1 -/
def nxt (m : MuteD) (n : Int) : Int := if 0 ≤ n ∧ n ≤ 1099511627776 then scan m n 12960 (n + 1) else -1
theorem isNext (m : MuteD) (n : Int) (h0 : 0 ≤ n) (h1 : n ≤ 1099511627776) : IsNext m n (nxt m n) := by
  unfold nxt
  rw [if_pos ⟨h0, h1⟩]
  exact scan_next m n h0 12960 (n + 1) (by omega) (by omega) (fun y a b => by omega)

end Go.Proofs.Ytajflljemfgkiaa.Mut

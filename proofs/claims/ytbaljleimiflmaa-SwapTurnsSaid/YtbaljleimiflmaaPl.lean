/-
  Plain counting, no program in sight: who is whose partner in a list of choices; how many have one; pairs; what one choice turned changes.
-/
import GoSem.Claim
namespace Go.Proofs.Ytbaljleimiflmaa.Pl

/-- A sum over the numbers below n. -/
def sumN : Nat → (Nat → Nat) → Nat
  | 0, _ => 0
  | n + 1, f => sumN n f + f n

theorem sumN_add (n : Nat) (f g : Nat → Nat) : sumN n (fun i => f i + g i) = sumN n f + sumN n g := by
  induction n with
  | zero => rfl
  | succ n ih => simp only [sumN, ih]; omega

theorem sumN_le (n : Nat) (f g : Nat → Nat) (h : ∀ i, i < n → f i ≤ g i) : sumN n f ≤ sumN n g := by
  induction n with
  | zero => exact Nat.le_refl _
  | succ n ih =>
    have h1 := ih (fun i hi => h i (by omega))
    have h2 := h n (by omega)
    simp only [sumN]; omega

theorem sumN_congr (n : Nat) (f g : Nat → Nat) (h : ∀ i, i < n → f i = g i) : sumN n f = sumN n g := by
  induction n with
  | zero => rfl
  | succ n ih =>
    have h1 := ih (fun i hi => h i (by omega))
    have h2 := h n (by omega)
    simp only [sumN]; omega

theorem sumN_zero (n : Nat) : sumN n (fun _ => 0) = 0 := by
  induction n with
  | zero => rfl
  | succ n ih => simp only [sumN, ih]

theorem sumN_one (n : Nat) : sumN n (fun _ => 1) = n := by
  induction n with
  | zero => rfl
  | succ n ih => simp only [sumN, ih]

theorem sumN_comm (n m : Nat) (f : Nat → Nat → Nat) : sumN n (fun i => sumN m (fun j => f i j)) = sumN m (fun j => sumN n (fun i => f i j)) := by
  induction n with
  | zero => simp only [sumN, sumN_zero]
  | succ n ih => simp only [sumN, ih, sumN_add]

theorem sumN_single (n v a : Nat) (h : v < n) : sumN n (fun i => if i = v then a else 0) = a := by
  induction n with
  | zero => omega
  | succ n ih =>
    simp only [sumN]
    by_cases e : n = v
    · subst e
      rw [if_pos rfl, sumN_congr n _ (fun _ => 0) (fun i hi => if_neg (by omega)), sumN_zero]; omega
    · rw [if_neg e, ih (by omega)]; rfl

theorem sumN_ind_le (n v : Nat) : sumN n (fun i => if i = v then 1 else 0) ≤ 1 := by
  by_cases h : v < n
  · rw [sumN_single n v 1 h]; exact Nat.le_refl _
  · rw [sumN_congr n _ (fun _ => 0) (fun i hi => if_neg (by omega)), sumN_zero]; omega

/-- Whom a user talks with. -/
def pt (l : List Int) (u : Int) : Int × Bool :=
  if u < 0 then (0, false) else
  if u ≥ (l.length : Int) then (0, false) else
  if l.getD u.toNat 0 < 0 then (0, false) else
  if l.getD u.toNat 0 ≥ (l.length : Int) then (0, false) else
  if l.getD u.toNat 0 = u then (0, false) else
  if l.getD (l.getD u.toNat 0).toNat 0 = u then (l.getD u.toNat 0, true) else (0, false)

/-- u and v chose each other. -/
def Rel (l : List Int) (u v : Int) : Prop := 0 ≤ u ∧ u < (l.length : Int) ∧ 0 ≤ v ∧ v < (l.length : Int) ∧ v ≠ u ∧ l.getD u.toNat 0 = v ∧ l.getD v.toNat 0 = u

theorem Rel.symm {l : List Int} {u v : Int} (h : Rel l u v) : Rel l v u := by
  obtain ⟨a, b, c, d, e, f, g⟩ := h
  exact ⟨c, d, a, b, fun x => e x.symm, g, f⟩

theorem pt_of_rel {l : List Int} {u v : Int} (h : Rel l u v) : pt l u = (v, true) := by
  obtain ⟨a, b, c, d, e, f, g⟩ := h
  subst f
  unfold pt
  rw [if_neg (by omega), if_neg (by omega), if_neg (by omega), if_neg (by omega), if_neg e, if_pos g]

theorem pt_cases (l : List Int) (u : Int) : pt l u = (0, false) ∨ ∃ v, pt l u = (v, true) ∧ Rel l u v := by
  unfold pt
  by_cases h1 : u < 0
  · rw [if_pos h1]; exact .inl rfl
  rw [if_neg h1]
  by_cases h2 : u ≥ (l.length : Int)
  · rw [if_pos h2]; exact .inl rfl
  rw [if_neg h2]
  by_cases h3 : l.getD u.toNat 0 < 0
  · rw [if_pos h3]; exact .inl rfl
  rw [if_neg h3]
  by_cases h4 : l.getD u.toNat 0 ≥ (l.length : Int)
  · rw [if_pos h4]; exact .inl rfl
  rw [if_neg h4]
  by_cases h5 : l.getD u.toNat 0 = u
  · rw [if_pos h5]; exact .inl rfl
  rw [if_neg h5]
  by_cases h6 : l.getD (l.getD u.toNat 0).toNat 0 = u
  · rw [if_pos h6]; exact .inr ⟨_, rfl, by omega, by omega, by omega, by omega, h5, rfl, h6⟩
  · rw [if_neg h6]; exact .inl rfl

theorem rel_of_ok {l : List Int} {u : Int} (h : (pt l u).2 = true) : Rel l u (pt l u).1 := by
  rcases pt_cases l u with e | ⟨v, e, r⟩
  · rw [e] at h; cases h
  · rw [e]; exact r

/-- How many below i have a partner, have none, stand ahead of their partner. -/
def okN (l : List Int) (i : Nat) : Nat := sumN i (fun u => if (pt l (u : Int)).2 = true then 1 else 0)
def oneN (l : List Int) (i : Nat) : Nat := sumN i (fun u => if (pt l (u : Int)).2 = true then 0 else 1)
def twoN (l : List Int) (i : Nat) : Nat := sumN i (fun u => if (pt l (u : Int)).2 = true ∧ (u : Int) < (pt l (u : Int)).1 then 1 else 0)

theorem one_ok (l : List Int) (i : Nat) : oneN l i + okN l i = i := by
  unfold oneN okN
  rw [← sumN_add, sumN_congr i _ (fun _ => 1) (fun u _ => by split <;> rfl), sumN_one]

theorem two_le (l : List Int) (i : Nat) : twoN l i ≤ i := by
  have := sumN_le i (fun u => if (pt l (u : Int)).2 = true ∧ (u : Int) < (pt l (u : Int)).1 then 1 else 0) (fun _ => 1) (fun u _ => by split <;> omega)
  rw [sumN_one] at this
  exact this

/-- Half of those who have a partner stand ahead of theirs. -/
theorem ok_two (l : List Int) : okN l l.length = 2 * twoN l l.length := by
  have h1 : okN l l.length = twoN l l.length + sumN l.length (fun u => if (pt l (u : Int)).2 = true ∧ (pt l (u : Int)).1 < (u : Int) then 1 else 0) := by
    unfold okN twoN
    rw [← sumN_add]
    refine sumN_congr _ _ _ (fun u _ => ?_)
    by_cases h : (pt l (u : Int)).2 = true
    · have r := rel_of_ok h
      obtain ⟨_, _, _, _, e, _, _⟩ := r
      by_cases g : (u : Int) < (pt l (u : Int)).1
      · rw [if_pos h, if_pos ⟨h, g⟩, if_neg (fun x => by omega)]
      · rw [if_pos h, if_neg (fun x => g x.2), if_pos ⟨h, by omega⟩]
    · rw [if_neg h, if_neg (fun x => h x.1), if_neg (fun x => h x.1)]
  have h2 : twoN l l.length = sumN l.length (fun u => sumN l.length (fun v => if (pt l (u : Int)).2 = true ∧ (pt l (u : Int)).1 = (v : Int) ∧ u < v then 1 else 0)) := by
    unfold twoN
    refine sumN_congr _ _ _ (fun u _ => ?_)
    by_cases h : (pt l (u : Int)).2 = true
    · obtain ⟨_, _, c, d, _, _, _⟩ := rel_of_ok h
      by_cases g : (u : Int) < (pt l (u : Int)).1
      · rw [if_pos ⟨h, g⟩, sumN_congr _ _ (fun v => if v = (pt l (u : Int)).1.toNat then 1 else 0) (fun v _ => ?_), sumN_single _ _ _ (by omega)]
        by_cases k : v = (pt l (u : Int)).1.toNat
        · rw [if_pos k, if_pos ⟨h, by omega, by omega⟩]
        · rw [if_neg k, if_neg (fun x => by omega)]
      · rw [if_neg (fun x => g x.2), sumN_congr _ _ (fun _ => 0) (fun v _ => if_neg (fun x => by omega)), sumN_zero]
    · rw [if_neg (fun x => h x.1), sumN_congr _ _ (fun _ => 0) (fun v _ => if_neg (fun x => h x.1)), sumN_zero]
  have h3 : sumN l.length (fun u => if (pt l (u : Int)).2 = true ∧ (pt l (u : Int)).1 < (u : Int) then 1 else 0) = sumN l.length (fun v => sumN l.length (fun u => if (pt l (u : Int)).2 = true ∧ (pt l (u : Int)).1 = (v : Int) ∧ u < v then 1 else 0)) := by
    refine sumN_congr _ _ _ (fun v _ => ?_)
    by_cases h : (pt l (v : Int)).2 = true
    · have r := rel_of_ok h
      obtain ⟨_, _, c, d, _, _, _⟩ := rel_of_ok h
      by_cases g : (pt l (v : Int)).1 < (v : Int)
      · rw [if_pos ⟨h, g⟩, sumN_congr _ _ (fun u => if u = (pt l (v : Int)).1.toNat then 1 else 0) (fun u _ => ?_), sumN_single _ _ _ (by omega)]
        by_cases k : u = (pt l (v : Int)).1.toNat
        · have e : (u : Int) = (pt l (v : Int)).1 := by omega
          rw [if_pos k, if_pos]
          rw [e, pt_of_rel r.symm]
          exact ⟨rfl, rfl, by omega⟩
        · rw [if_neg k, if_neg]
          rintro ⟨x, y, z⟩
          have r2 := rel_of_ok x
          rw [y] at r2
          have := pt_of_rel r2.symm
          rw [this] at k
          exact k (by simp)
      · rw [if_neg (fun x => g x.2), sumN_congr _ _ (fun _ => 0) (fun u _ => if_neg ?_), sumN_zero]
        rintro ⟨x, y, z⟩
        have r2 := rel_of_ok x
        rw [y] at r2
        have e := pt_of_rel r2.symm
        rw [e] at g
        exact g (by simp; omega)
    · rw [if_neg (fun x => h x.1), sumN_congr _ _ (fun _ => 0) (fun u _ => if_neg ?_), sumN_zero]
      rintro ⟨x, y, z⟩
      have r2 := rel_of_ok x
      rw [y] at r2
      have e := pt_of_rel r2.symm
      rw [e] at h
      exact h rfl
  have h4 : sumN l.length (fun u => sumN l.length (fun v => if (pt l (u : Int)).2 = true ∧ (pt l (u : Int)).1 = (v : Int) ∧ u < v then 1 else 0)) = sumN l.length (fun v => sumN l.length (fun u => if (pt l (u : Int)).2 = true ∧ (pt l (u : Int)).1 = (v : Int) ∧ u < v then 1 else 0)) := sumN_comm _ _ _
  omega

/-- One choice turned: of those who have a partner two at most have none any more. -/
theorem ok_near (l m : List Int) (a : Nat) (hl : m.length = l.length) (h : ∀ i, i ≠ a → l.getD i 0 = m.getD i 0) : okN l l.length ≤ okN m m.length + 2 := by
  have h1 : okN l l.length ≤ sumN l.length (fun u => ((if (pt m (u : Int)).2 = true then 1 else 0) + (if u = a then 1 else 0)) + (if u = (pt l (a : Int)).1.toNat then 1 else 0)) := by
    unfold okN
    refine sumN_le _ _ _ (fun u hu => ?_)
    by_cases ho : (pt l (u : Int)).2 = true
    · rw [if_pos ho]
      by_cases hua : u = a
      · rw [if_pos hua]; omega
      · by_cases hp : (pt l (u : Int)).1 = (a : Int)
        · have r := rel_of_ok ho
          rw [hp] at r
          rw [pt_of_rel r.symm, if_pos (by simp : u = ((u : Int), true).1.toNat)]; omega
        · obtain ⟨p1, p2, p3, p4, p5, p6, p7⟩ := rel_of_ok ho
          have e1 := h u hua
          have e2 := h (pt l (u : Int)).1.toNat (by omega)
          have r : Rel m (u : Int) (pt l (u : Int)).1 := ⟨p1, by omega, p3, by omega, p5, by rw [← p6]; exact e1.symm, by rw [← e2]; exact p7⟩
          rw [pt_of_rel r]
          simp only [if_pos]
          omega
    · rw [if_neg ho]; exact Nat.zero_le _
  rw [sumN_add, sumN_add] at h1
  have h2 := sumN_ind_le l.length a
  have h3 := sumN_ind_le l.length (pt l (a : Int)).1.toNat
  unfold okN at *
  rw [hl]
  omega

end Go.Proofs.Ytbaljleimiflmaa.Pl

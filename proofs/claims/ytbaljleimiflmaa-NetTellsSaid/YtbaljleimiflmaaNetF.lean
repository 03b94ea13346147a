/-
  A state that a law keeps of the net, with blocks set aside; each call over it. Conditions: the state.
-/
import Derived.Test.YtbaljleimiflmaaNetE
import Derived.Test.YtbaljleimiflmaaPNetTellsx1
namespace Go.Proofs.Ytbaljleimiflmaa.Net
open Go.RowKit Go.Proofs.Ytbaljleimiflmaa.PNetTells Go.Proofs.YtbaljleimiflmaaW.PrintWords Go.Proofs.YtbaljleimiflmaaW.PrintLast

/-- The net at b holds xs; below B all is as it was in w; the blocks S are none of the net's. -/
def NSt (w : World) (B b : Nat) (S : Nat → Prop) (xs : List S72) (w1 : World) : Prop :=
  ∃ A c, NetAt w1 B b A c xs ∧ Below B w w1 ∧ B ≤ b ∧ ∀ k, S k → k < w1.heap.size ∧ k ≠ b ∧ some k ≠ (Value.slice A xs.length c).ownBlock
def NStTo (w : World) (B b : Nat) (S : Nat → Prop) (v : Value) (xs : List S72) (w1 : World) (e : Ending) (w2 : World) : Prop :=
  e = .returned v ∧ NSt w B b S xs w2 ∧ ∀ k, S k → w2.heap[k]? = w1.heap[k]?

section
variable {w : World} {B b : Nat} {S : Nat → Prop} {xs : List S72} {w1 w2 : World}

theorem NSt.size (h : NSt w B b S xs w1) : B ≤ w1.heap.size ∧ b < w1.heap.size ∧ B ≤ b := by
  obtain ⟨A, c, hn, _, hb, _⟩ := h
  have := blk_lt hn.1
  omega
theorem NSt.old (h : NSt w B b S xs w1) : Below B w w1 := h.choose_spec.choose_spec.2.1
theorem NSt.new (w : World) : NSt w w.heap.size w.heap.size (fun _ => False) [] (w.alloc (.cells #[.slice none 0 0] 65)) :=
  ⟨none, 0, ⟨heap_alloc_new w _, Kd.R_nil _ _ _ _ _⟩, (Below.refl _ _).alloc (Nat.le_refl _) _, Nat.le_refl _, fun _ h => h.elim⟩
theorem NSt.below (h : NSt w B b S xs w1) (hb : Below w1.heap.size w1 w2) : NSt w B b S xs w2 := by
  obtain ⟨A, c, hn, ho, h2, hS⟩ := h
  have hlt := blk_lt hn.1
  obtain ⟨inner, hown⟩ := R72_own hn.2
  exact ⟨A, c, ⟨(hb.block b hlt).trans hn.1, R72_move hn.2 (fun k hk => hb.block k (own_lt hown k hk))⟩, ho.trans (hb.mono (by omega)), h2, fun k hk => ⟨Nat.lt_of_lt_of_le (hS k hk).1 hb.size, (hS k hk).2⟩⟩
theorem NSt.more (h : NSt w B b S xs w1) (o : Obj) : NSt w B b (fun k => S k ∨ k = w1.heap.size) xs (w1.alloc o) := by
  have h' := h.below ((Below.refl w1.heap.size w1).alloc (Nat.le_refl _) o)
  obtain ⟨A, c, hn, ho, h2, hS⟩ := h
  have hlt := blk_lt hn.1
  obtain ⟨inner, hown⟩ := R72_own hn.2
  refine ⟨A, c, ⟨(Below.heap_alloc _ _ _ hlt).trans hn.1, R72_move hn.2 (fun k hk => Below.heap_alloc _ _ _ (own_lt hown k hk))⟩, ho.alloc (by omega) o, h2, fun k hk => ?_⟩
  rcases hk with hk | rfl
  · exact ⟨by have := (hS k hk).1; simp; omega, (hS k hk).2⟩
  · refine ⟨by simp, by omega, fun e => ?_⟩
    have := own_lt hown w1.heap.size e.symm
    omega
theorem NSt.fewer {S' : Nat → Prop} (h : NSt w B b S xs w1) (hS : ∀ k, S' k → S k) : NSt w B b S' xs w1 := by
  obtain ⟨A, c, hn, ho, h2, h3⟩ := h
  exact ⟨A, c, hn, ho, h2, fun k hk => h3 k (hS k hk)⟩
theorem NSt.drewN (h : NSt w B b S xs w1) (m : Nat) : NSt w B b S xs (w1.drewN m) := h.below (pw_below_drewN (Below.refl _ _) m)
/-- A cell of a block that is set aside is written. -/
theorem NSt.put (h : NSt w B b S xs w1) (p : Addr) (hp : S p.block) (hB : B ≤ p.block) (u : Value) : NSt w B b S xs (w1.setCell p u) := by
  obtain ⟨A, c, hn, ho, h2, h3⟩ := h
  obtain ⟨h4, h5, h6⟩ := h3 _ hp
  exact ⟨A, c, ⟨blk_far hn.1 (fun e => h5 e.symm) u, R72_far hn.2 h6 u⟩, ho.setCell hB u, h2, fun k hk => ⟨by simpa [World.setCell] using (h3 k hk).1, (h3 k hk).2⟩⟩

theorem NSt.to {A : Option Addr} {c : Nat} {v : Value} {ys : List S72} {e : Ending} (hS : ∀ k, S k → k < w1.heap.size ∧ k ≠ b ∧ some k ≠ (Value.slice A xs.length c).ownBlock) (hb : B ≤ b)
    (h : NetTo B b w w1 (Value.slice A xs.length c).ownBlock v ys e w2) : NStTo w B b S v ys w1 e w2 := by
  obtain ⟨he, A', c', hn, ho, hk, hat⟩ := h
  refine ⟨he, ⟨A', c', hn, ho, hb, fun k hs => ?_⟩, fun k hs => hk.2 k (hS k hs).1 (hS k hs).2.1 (hS k hs).2.2⟩
  obtain ⟨h1, h2, h3⟩ := hS k hs
  refine ⟨Nat.lt_of_lt_of_le h1 hk.1, h2, fun e => ?_⟩
  rcases hat with hat | ⟨g, hg, hlt⟩
  · exact h3 (e.trans hat)
  · rw [hg] at e
    injection e with e
    omega

theorem put_s (h : NSt w B b S xs w1) (hl : (xs.length + 1) * 24 ≤ 140737488355328) (i : Int) (s : ByteArray) : Calls Try.prog 36 #[.pointer (some ⟨b, 0, none⟩), .int .i64 i, .string s] w1 (NStTo w B b S (.tuple #[]) (xs ++ [⟨i, s⟩]) w1) := by
  obtain ⟨A, c, hn, ho, hb, hS⟩ := h
  exact (put_any hn ho hb hl i s).mono fun _ _ h => NSt.to hS hb h
theorem take_s (h : NSt w B b S xs w1) (i : Nat) (hi : i < xs.length) : Calls Try.prog 37 #[.pointer (some ⟨b, 0, none⟩), .int .i64 i] w1 (NStTo w B b S (.tuple #[Item (xs.getD i z72), .bool true]) (xs.eraseIdx i) w1) := by
  have hsz := h.size
  obtain ⟨A, c, hn, ho, hb, hS⟩ := h
  exact (take_any hn ho hsz.1 hb i hi).mono fun _ _ h => NSt.to hS hb h
theorem drop_s (h : NSt w B b S xs w1) (i : Nat) (hi : i < xs.length) : Calls Try.prog 38 #[.pointer (some ⟨b, 0, none⟩), .int .i64 i] w1 (NStTo w B b S (.bool true) (xs.eraseIdx i) w1) := by
  have hsz := h.size
  obtain ⟨A, c, hn, ho, hb, hS⟩ := h
  exact (drop_any hn ho hsz.1 hb i hi).mono fun _ _ h => NSt.to hS hb h
theorem twice_s (h : NSt w B b S xs w1) (hl : (xs.length + 1) * 24 ≤ 140737488355328) (i : Nat) (hi : i < xs.length) : Calls Try.prog 39 #[.pointer (some ⟨b, 0, none⟩), .int .i64 i] w1 (NStTo w B b S (.bool true) (xs ++ [xs.getD i z72]) w1) := by
  obtain ⟨A, c, hn, ho, hb, hS⟩ := h
  exact (twice_any hn ho hb hl i hi).mono fun _ _ h => NSt.to hS hb h
theorem turn_s (h : NSt w B b S xs w1) (i : Nat) (s : ByteArray) (hi : i < xs.length) : Calls Try.prog 40 #[.pointer (some ⟨b, 0, none⟩), .int .i64 i, .string s] w1 (NStTo w B b S (.bool true) (xs.set i ⟨(xs.getD i z72).f0, s⟩) w1) := by
  obtain ⟨A, c, hn, ho, hb, hS⟩ := h
  exact (turn_any hn ho hb i s hi).mono fun _ _ h => NSt.to hS hb h
theorem NSt.still (h : NSt w B b S xs w1) (hb : Below w1.heap.size w1 w2) {e : Ending} {v : Value} (he : e = .returned v) : NStTo w B b S v xs w1 e w2 := by
  refine ⟨he, h.below hb, fun k hk => ?_⟩
  obtain ⟨A, c, hn, ho, h2, hS⟩ := h
  exact hb.block k (hS k hk).1
theorem take_f (h : NSt w B b S xs w1) (i : Int) (hi : ¬ (0 ≤ i ∧ i < (xs.length : Int))) : Calls Try.prog 37 #[.pointer (some ⟨b, 0, none⟩), .int .i64 i] w1 (NStTo w B b S (.tuple #[Item z72, .bool false]) xs w1) := by
  obtain ⟨A, c, hn, ho, hb, hS⟩ := id h
  exact (take_not hn i hi).mono fun _ _ ⟨he, hw⟩ => h.still hw he
theorem drop_f (h : NSt w B b S xs w1) (i : Int) (hi : ¬ (0 ≤ i ∧ i < (xs.length : Int))) : Calls Try.prog 38 #[.pointer (some ⟨b, 0, none⟩), .int .i64 i] w1 (NStTo w B b S (.bool false) xs w1) := by
  obtain ⟨A, c, hn, ho, hb, hS⟩ := id h
  exact (drop_not hn i hi).mono fun _ _ ⟨he, hw⟩ => h.still hw he
theorem twice_f (h : NSt w B b S xs w1) (i : Int) (hi : ¬ (0 ≤ i ∧ i < (xs.length : Int))) : Calls Try.prog 39 #[.pointer (some ⟨b, 0, none⟩), .int .i64 i] w1 (NStTo w B b S (.bool false) xs w1) := by
  obtain ⟨A, c, hn, ho, hb, hS⟩ := id h
  exact (twice_not hn i hi).mono fun _ _ ⟨he, hw⟩ => h.still (by rw [← hw]; exact Below.refl _ _) he
theorem turn_f (h : NSt w B b S xs w1) (i : Int) (s : ByteArray) (hi : ¬ (0 ≤ i ∧ i < (xs.length : Int))) : Calls Try.prog 40 #[.pointer (some ⟨b, 0, none⟩), .int .i64 i, .string s] w1 (NStTo w B b S (.bool false) xs w1) := by
  obtain ⟨A, c, hn, ho, hb, hS⟩ := id h
  exact (turn_not hn i s hi).mono fun _ _ ⟨he, hw⟩ => h.still (by rw [← hw]; exact Below.refl _ _) he
/-- All: a slice of its own, and its block is set aside. -/
def AllSt (w : World) (B b : Nat) (S : Nat → Prop) (xs : List S72) (w1 : World) (e : Ending) (w2 : World) : Prop :=
  ∃ A c, e = .returned (.slice A xs.length c) ∧ Kd.R k72 72 w2 w1.heap.size (fun _ => True) (.slice A xs.length c) xs ∧ NSt w B b (fun k => S k ∨ some k = (Value.slice A xs.length c).ownBlock) xs w2 ∧ ∀ k, k < w1.heap.size → w2.heap[k]? = w1.heap[k]?
theorem all_s (h : NSt w B b S xs w1) (hl : xs.length * 24 ≤ 140737488355328) : Calls Try.prog 41 #[.pointer (some ⟨b, 0, none⟩)] w1 (AllSt w B b S xs w1) := by
  obtain ⟨A, c, hn, ho, hb, hS⟩ := id h
  refine (all_any w1 B b A c xs hn hl).mono fun e w2 ⟨A', c', he, hr, hw⟩ => ⟨A', c', he, hr, ?_, fun k hk => hw.block k hk⟩
  have hlt := blk_lt hn.1
  obtain ⟨inner, hown⟩ := R72_own hn.2
  obtain ⟨inner', hown'⟩ := R72_own hr
  refine ⟨A, c, ⟨(hw.block b hlt).trans hn.1, R72_move hn.2 (fun k hk => hw.block k (own_lt hown k hk))⟩, ho.trans (hw.mono (by omega)), hb, fun k hk => ?_⟩
  rcases hk with hk | hk
  · exact ⟨Nat.lt_of_lt_of_le (hS k hk).1 hw.size, (hS k hk).2⟩
  · have h1 := own_lt hown' k hk.symm
    have h2 := own_base hown' k hk.symm
    exact ⟨h1, by omega, fun e => by have := own_lt hown k e.symm; omega⟩
end

end Go.Proofs.Ytbaljleimiflmaa.Net

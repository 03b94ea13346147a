/-
  The walk of ClockTells: it answers true of every list of acts and touches nothing elder. Conditions: the acts lie in memory as a slice does.
-/
import Derived.Test.YtbaljleimiflmaaClkOver
import Derived.Test.YtbaljleimiflmaaRead
namespace Go.Proofs.Ytbaljleimiflmaa.Clk
open Go.RowKit Go.Proofs.YtbaljleimiflmaaW.PrintWords

/-- Both clocks: the clock at b, the document's at c. -/
def St2 (B : Nat) (w : World) (b c : Nat) (n u s t : Int) (f : Bool) (w1 : World) : Prop :=
  Clk w1 b n u f ∧ Ref w1 c n s t f ∧ Below B w w1 ∧ B ≤ b ∧ B ≤ c ∧ b ≠ c ∧ (f = true → u = s + t) ∧ 0 ≤ s ∧ s ≤ n ∧ 0 ≤ t ∧ t ≤ 1000
def St2To (B : Nat) (w : World) (b c : Nat) (n u s t : Int) (f : Bool) (v : Value) (e : Ending) (w1 : World) : Prop := e = .returned v ∧ St2 B w b c n u s t f w1
/-- The clock has gone on, the document's not yet. -/
def Half (B : Nat) (w : World) (b c : Nat) (n u : Int) (f : Bool) (n' s t : Int) (f' : Bool) (w1 : World) : Prop := Clk w1 b n u f ∧ Ref w1 c n' s t f' ∧ Below B w w1 ∧ B ≤ b ∧ B ≤ c ∧ b ≠ c
def HalfTo (B : Nat) (w : World) (b c : Nat) (n u : Int) (f : Bool) (n' s t : Int) (f' : Bool) (v : Value) (e : Ending) (w1 : World) : Prop := e = .returned v ∧ Half B w b c n u f n' s t f' w1

section
variable {B : Nat} {w : World} {b c : Nat} {n u s t n' : Int} {f f' : Bool} {w1 w2 : World}
theorem half_of (h : St2 B w b c n u s t f w1) : Half B w b c n u f n s t f w1 := ⟨h.1, h.2.1, h.2.2.1, h.2.2.2.1, h.2.2.2.2.1, h.2.2.2.2.2.1⟩
theorem Half.clk (h : Half B w b c n u f n' s t f' w1) {m v : Int} {g : Bool} (hc : Clk w2 b m v g) (hg : w1.grownBy w2 (some b)) : Half B w b c m v g n' s t f' w2 :=
  ⟨hc, h.2.1.grown hg (by simpa using h.2.2.2.2.2.symm), below_grown h.2.2.1 hg h.2.2.2.1 (by have := h.1.lt; have := h.2.2.2.1; omega), h.2.2.2.1, h.2.2.2.2.1, h.2.2.2.2.2⟩
theorem Half.ref (h : Half B w b c n u f n' s t f' w1) {m v x : Int} {g : Bool} (hc : Ref w2 c m v x g) (hg : w1.grownBy w2 (some c)) : Half B w b c n u f m v x g w2 :=
  ⟨h.1.grown hg (by simpa using h.2.2.2.2.2), hc, below_grown h.2.2.1 hg h.2.2.2.2.1 (by have := h.1.lt; have := h.2.2.2.1; omega), h.2.2.2.1, h.2.2.2.2.1, h.2.2.2.2.2⟩

theorem pass_h (h : Half B w b c n u f n' s t f' w1) (m : Int) (hm : m = wrap64 (n + 1)) : Calls Try.prog 15 #[.pointer (some ⟨b, 0, none⟩)] w1 (HalfTo B w b c m u f n' s t f' (.tuple #[])) := by
  subst hm
  exact (pass_any w1 b n u f h.1).mono fun _ _ ⟨he, hc, hg⟩ => ⟨he, h.clk hc hg⟩
theorem wait_h (h : Half B w b c n u f n' s t f' w1) (x m : Int) (hm : m = wrap64 (n + clamp x)) : Calls Try.prog 17 #[.pointer (some ⟨b, 0, none⟩), .int .i64 x] w1 (HalfTo B w b c n m true n' s t f' (.tuple #[])) := by
  subst hm
  exact (wait_any w1 b n u x f h.1).mono fun _ _ ⟨he, hc, hg⟩ => ⟨he, h.clk hc hg⟩
theorem rest_h (h : Half B w b c n u f n' s t f' w1) : Calls Try.prog 19 #[.pointer (some ⟨b, 0, none⟩)] w1 (HalfTo B w b c n u false n' s t f' (.tuple #[])) :=
  (rest_any w1 b n u f h.1).mono fun _ _ ⟨he, hc, hg⟩ => ⟨he, h.clk hc hg⟩
theorem rpass_h (h : Half B w b c n u f n' s t f' w1) (m : Int) (hm : m = wrap64 (n' + 1)) : Calls Try.prog 16 #[.pointer (some ⟨c, 0, none⟩)] w1 (HalfTo B w b c n u f m s t f' (.tuple #[])) := by
  subst hm
  exact (rpass_any w1 c n' s t f' h.2.1).mono fun _ _ ⟨he, hc, hg⟩ => ⟨he, h.ref hc hg⟩
theorem rwait_h (h : Half B w b c n u f n' s t f' w1) (x : Int) : Calls Try.prog 18 #[.pointer (some ⟨c, 0, none⟩), .int .i64 x] w1 (HalfTo B w b c n u f n' n' (clamp x) true (.tuple #[])) :=
  (rwait_any w1 c n' s t x f' h.2.1).mono fun _ _ ⟨he, hc, hg⟩ => ⟨he, h.ref hc hg⟩
theorem rrest_h (h : Half B w b c n u f n' s t f' w1) : Calls Try.prog 20 #[.pointer (some ⟨c, 0, none⟩)] w1 (HalfTo B w b c n u f n' s t false (.tuple #[])) :=
  (rrest_any w1 c n' s t f' h.2.1).mono fun _ _ ⟨he, hc, hg⟩ => ⟨he, h.ref hc hg⟩
theorem St2.drewN (h : St2 B w b c n u s t f w1) (k : Nat) : St2 B w b c n u s t f (w1.drewN k) := ⟨h.1, h.2.1, below_drewN h.2.2.1 k, h.2.2.2⟩
theorem St2.rover (h : St2 B w b c n u s t f w1) (hn : n ≤ 1000) : Hid ((f && decide (t ≤ wrap64 (n - s))) = (f && decide (u ≤ n))) := by
  refine Lib.hid ?_
  obtain ⟨_, _, _, _, _, _, hf, h0, h1, h2, h3⟩ := h
  cases f with
  | false => rfl
  | true =>
    have hu := hf rfl
    have : wrap64 (n - s) = n - s := by unfold wrap64; omega
    rw [this, hu]
    simp
    omega
end

theorem st2_new (w : World) : Half w.heap.size w w.heap.size (w.heap.size + 1) 0 0 false 0 0 0 false ((w.alloc (.cells #[.int .i64 0, .int .i64 0, .bool false] 27)).alloc (.cells #[.int .i64 0, .int .i64 0, .int .i64 0, .bool false] 30)) := by
  have h1 := Blk.new w #[.int .i64 0, .int .i64 0, .bool false] 27
  have h2 := Blk.new (w.alloc (.cells #[.int .i64 0, .int .i64 0, .bool false] 27)) #[.int .i64 0, .int .i64 0, .int .i64 0, .bool false] 30
  refine ⟨?_, ?_, ((Below.refl _ _).alloc (Nat.le_refl _) _).alloc (by simp) _, Nat.le_refl _, by omega, by omega⟩
  · unfold Clk Blk at *
    rw [Below.heap_alloc _ _ _ (by simp), h1]
  · unfold Ref
    rw [← World.size_alloc (o := .cells #[.int .i64 0, .int .i64 0, .bool false] 27)]
    exact h2

def kAct : Kd (Int × Int) := Kd.pair (Kd.int .i64) (Kd.int .i64)
/-- An act's cells. -/
theorem act_at {w : World} {A : Option Addr} {l : List (Int × Int)} (h : Kd.C kAct w A l.length l) (i : Nat) (hi : i < l.length) :
    ∃ ad, A = some ad ∧ w.cell? (ad.add (i * 2)) = some (.int .i64 (l.getD i (0, 0)).1) ∧ w.cell? (ad.add (i * 2 + 1)) = some (.int .i64 (l.getD i (0, 0)).2) := by
  obtain ⟨ad, c, e, _, hK, hc⟩ := Kd.C_get h (0, 0) i (by omega) (by omega)
  obtain ⟨_, _, rfl, rfl, rfl⟩ := hK
  exact ⟨ad, e, hc 0 _ rfl, hc 1 _ rfl⟩

end Go.Proofs.Ytbaljleimiflmaa.Clk

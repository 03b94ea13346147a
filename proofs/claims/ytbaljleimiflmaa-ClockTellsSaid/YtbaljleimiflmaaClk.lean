/-
  The clock's functions, and those of the document's clock, each by its contract over a world in which the clock is one block of memory. Conditions: the block is there.
-/
import Derived.Test.YtbaljleimiflmaaProg
import Derived.WalkKit
import Derived.OneCell
import Derived.KernelRfl
import Derived.Lib.Hide
import Derived.Deep.Draws
import Derived.Deep.QuietTactic
import Derived.BigQuiet
import Derived.WideLaws
import Derived.WalkSpells
import Derived.WalkLawsBesides
namespace Go.Proofs.Ytbaljleimiflmaa.Clk
open Go.RowKit

/-- A block of cells. -/
def Blk (w : World) (b : Nat) (cs : Array Value) (t : Nat) : Prop := w.heap[b]? = some (.cells cs t (0, 0))

theorem Blk.cell {w : World} {b : Nat} {cs : Array Value} {t : Nat} (h : Blk w b cs t) (i : Nat) : w.cell? ⟨b, i, none⟩ = cs[i]? := by
  unfold Blk at h
  simp [World.cell?, h]
theorem Blk.free {w : World} {b : Nat} {cs : Array Value} {t : Nat} (h : Blk w b cs t) (i : Nat) : w.frozen? ⟨b, i, none⟩ = false := by
  unfold Blk at h
  simp [World.frozen?, h]
theorem Blk.lt {w : World} {b : Nat} {cs : Array Value} {t : Nat} (h : Blk w b cs t) : b < w.heap.size := lt_of_block h
theorem Blk.put {w : World} {b : Nat} {cs : Array Value} {t : Nat} (h : Blk w b cs t) (i : Nat) (v : Value) : Blk (w.setCell ⟨b, i, none⟩ v) b (cs.setIfInBounds i v) t := by
  have hlt := h.lt
  unfold Blk at *
  have h' : w.heap[b] = .cells cs t (0, 0) := by simpa [Array.getElem?_eq_getElem hlt] using h
  show (w.heap.modify b _)[b]? = _
  rw [Array.getElem?_eq_getElem (by simpa using hlt), Array.getElem_modify_self, h']
  rfl
theorem Blk.new (w : World) (cs : Array Value) (t : Nat) : Blk (w.alloc (.cells cs t)) w.heap.size cs t := heap_alloc_new w (.cells cs t)
theorem Blk.grown {w w' : World} {b : Nat} {row : Option Nat} {cs : Array Value} {t : Nat} (h : Blk w b cs t) (hg : w.grownBy w' row) (hne : some b ≠ row) : Blk w' b cs t := by
  have := hg.block b h.lt hne
  unfold Blk at *
  rw [this, h]
theorem grown_put (w : World) (a : Addr) (v : Value) : w.grownBy (w.setCell a v) (some a.block) :=
  ⟨rfl, rfl, rfl, by simp [World.setCell], fun k _ hk => Below.heap_setCell w a v k (fun e => hk (by rw [e]))⟩
theorem grown_trans {a b c : World} {row : Option Nat} (h : a.grownBy b row) (k : b.grownBy c row) : a.grownBy c row :=
  ⟨k.os.trans h.os, k.tape.trans h.tape, k.output.trans h.output, Nat.le_trans h.size k.size, fun i hi hr => (k.block i (Nat.lt_of_lt_of_le hi h.size) hr).trans (h.block i hi hr)⟩
theorem below_grown {B b : Nat} {a w w' : World} (h : Below B a w) (hg : w.grownBy w' (some b)) (hb : B ≤ b) (hB : B ≤ w.heap.size) : Below B a w' :=
  h.grown hg hB (fun k e => by injection e with e; omega)

/-- The clock; the document's. -/
def Clk (w : World) (b : Nat) (n u : Int) (f : Bool) : Prop := Blk w b #[.int .i64 n, .int .i64 u, .bool f] 27
def Ref (w : World) (b : Nat) (n s t : Int) (f : Bool) : Prop := Blk w b #[.int .i64 n, .int .i64 s, .int .i64 t, .bool f] 30
def ClkTo (b : Nat) (n u : Int) (f : Bool) (w : World) (e : Ending) (w' : World) : Prop := e = .returned (.tuple #[]) ∧ Clk w' b n u f ∧ w.grownBy w' (some b)
def RefTo (b : Nat) (n s t : Int) (f : Bool) (w : World) (e : Ending) (w' : World) : Prop := e = .returned (.tuple #[]) ∧ Ref w' b n s t f ∧ w.grownBy w' (some b)
/-- How long is waited. -/
def clamp (t : Int) : Int := if t < 0 then 0 else if 1000 < t then 1000 else t
theorem clamp_bd (t : Int) : 0 ≤ clamp t ∧ clamp t ≤ 1000 := by unfold clamp; split <;> (try split) <;> omega

theorem now_any (w : World) (b : Nat) (n u : Int) (f : Bool) (h : Clk w b n u f) :
    Calls Try.prog 21 #[.pointer (some ⟨b, 0, none⟩)] w fun e w' => e = .returned (.int .i64 n) ∧ w' = w := by
  have h0 := h.cell 0
  simp at h0
  go_enter Try.func21, Try.ntmps21
  go_wp2
  go_ret
  exact ⟨rfl, rfl⟩

theorem waits_any (w : World) (b : Nat) (n u : Int) (f : Bool) (h : Clk w b n u f) :
    Calls Try.prog 22 #[.pointer (some ⟨b, 0, none⟩)] w fun e w' => e = .returned (.bool f) ∧ w' = w := by
  have h2 := h.cell 2
  simp at h2
  go_enter Try.func22, Try.ntmps22
  go_wp2
  go_ret
  exact ⟨rfl, rfl⟩

theorem over_any (w : World) (b : Nat) (n u : Int) (f o : Bool) (h : Clk w b n u f) (ho : Hid ((f && decide (u ≤ n)) = o)) :
    Calls Try.prog 23 #[.pointer (some ⟨b, 0, none⟩)] w fun e w' => e = .returned (.bool o) ∧ ∃ k, w' = w.drewN k := by
  have h0 := h.cell 0
  have h1 := h.cell 1
  simp at h0 h1
  obtain rfl := ho.out
  clear ho
  cases f with
  | true =>
    go_enter Try.func23, Try.ntmps23
    go_wp2
    go_quiet ((go_at_call 22; exact Calls.quiet_of_same (waits_any _ b n u true h)))
    go_wp2
    go_ret
    exact ⟨rfl, _, rfl⟩
  | false =>
    go_enter Try.func23, Try.ntmps23
    go_wp2
    go_quiet ((go_at_call 22; exact Calls.quiet_of_same (waits_any _ b n u false h)))
    go_wp2
    go_ret
    exact ⟨rfl, _, rfl⟩

theorem count_any (w : World) (b : Nat) (n u : Int) (f : Bool) (h : Clk w b n u f) :
    Calls Try.prog 44 #[.pointer (some ⟨b, 0, none⟩)] w fun e w' => e = .returned (.tuple #[]) ∧ w' = w.setCell ⟨b, 0, none⟩ (.int .i64 (wrap64 (n + 1))) := by
  have h0 := h.cell 0
  have g0 := h.free 0
  simp at h0
  go_enter Try.func44, Try.ntmps44
  go_wp2
  go_end0
  exact ⟨rfl, rfl⟩

theorem pass_any (w : World) (b : Nat) (n u : Int) (f : Bool) (h : Clk w b n u f) :
    Calls Try.prog 15 #[.pointer (some ⟨b, 0, none⟩)] w (ClkTo b (wrap64 (n + 1)) u f w) := by
  go_enter Try.func15, Try.ntmps15
  go_wp2_with (go_at_call 44; refine (count_any _ b n u f h).mono ?_; rintro e w' ⟨rfl, rfl⟩)
  go_end0
  exact ⟨rfl, h.put 0 _, grown_put _ _ _⟩

theorem wait_any (w : World) (b : Nat) (n u t : Int) (f : Bool) (h : Clk w b n u f) :
    Calls Try.prog 17 #[.pointer (some ⟨b, 0, none⟩), .int .i64 t] w (ClkTo b n (wrap64 (n + clamp t)) true w) := by
  have h0 := h.cell 0
  have h1 := h.cell 1
  have h2 := h.cell 2
  have g0 := h.free 0
  have g1 := h.free 1
  have g2 := h.free 2
  simp at h0 h1 h2
  have fin : ∀ m : Int, m = n + clamp t → ClkTo b n (wrap64 (n + clamp t)) true w (.returned (.tuple #[])) ((w.setCell ⟨b, 1, none⟩ (.int .i64 (wrap64 m))).setCell ⟨b, 2, none⟩ (.bool true)) := by
    rintro m rfl
    exact ⟨rfl, (h.put 1 _).put 2 _, grown_trans (grown_put w ⟨b, 1, none⟩ _) (grown_put _ ⟨b, 2, none⟩ _)⟩
  have FIN := Lib.hid fin
  clear fin
  by_cases c1 : t < 0
  · have e := FIN.out n (by unfold clamp; rw [if_pos c1]; omega)
    have E := Lib.hid e
    clear e FIN
    go_enter Try.func17, Try.ntmps17
    go_wp2
    go_end0
    exact E.out
  · by_cases c2 : 1000 < t
    · have e := FIN.out (n + 1000) (by unfold clamp; rw [if_neg c1, if_pos c2])
      have E := Lib.hid e
      clear e FIN
      go_enter Try.func17, Try.ntmps17
      go_wp2
      go_end0
      exact E.out
    · have e := FIN.out (n + t) (by unfold clamp; rw [if_neg c1, if_neg c2])
      have E := Lib.hid e
      clear e FIN
      go_enter Try.func17, Try.ntmps17
      go_wp2
      go_end0
      exact E.out

theorem rest_any (w : World) (b : Nat) (n u : Int) (f : Bool) (h : Clk w b n u f) :
    Calls Try.prog 19 #[.pointer (some ⟨b, 0, none⟩)] w (ClkTo b n u false w) := by
  have h2 := h.cell 2
  have g2 := h.free 2
  simp at h2
  go_enter Try.func19, Try.ntmps19
  go_wp2
  go_end0
  exact ⟨rfl, h.put 2 _, grown_put _ ⟨b, 2, none⟩ _⟩

theorem rpass_any (w : World) (b : Nat) (n s t : Int) (f : Bool) (h : Ref w b n s t f) :
    Calls Try.prog 16 #[.pointer (some ⟨b, 0, none⟩)] w (RefTo b (wrap64 (n + 1)) s t f w) := by
  have h0 := h.cell 0
  have g0 := h.free 0
  simp at h0
  go_enter Try.func16, Try.ntmps16
  go_wp2
  go_end0
  exact ⟨rfl, h.put 0 _, grown_put _ ⟨b, 0, none⟩ _⟩

theorem rwait_any (w : World) (b : Nat) (n s t m : Int) (f : Bool) (h : Ref w b n s t f) :
    Calls Try.prog 18 #[.pointer (some ⟨b, 0, none⟩), .int .i64 m] w (RefTo b n n (clamp m) true w) := by
  have h0 := h.cell 0
  have h1 := h.cell 1
  have h2 := h.cell 2
  have h3 := h.cell 3
  have g0 := h.free 0
  have g1 := h.free 1
  have g2 := h.free 2
  have g3 := h.free 3
  simp at h0 h1 h2 h3
  have fin : ∀ x : Int, x = clamp m → RefTo b n n (clamp m) true w (.returned (.tuple #[])) (((w.setCell ⟨b, 3, none⟩ (.bool true)).setCell ⟨b, 1, none⟩ (.int .i64 n)).setCell ⟨b, 2, none⟩ (.int .i64 x)) := by
    rintro x rfl
    exact ⟨rfl, ((h.put 3 _).put 1 _).put 2 _, grown_trans (grown_trans (grown_put w ⟨b, 3, none⟩ _) (grown_put _ ⟨b, 1, none⟩ _)) (grown_put _ ⟨b, 2, none⟩ _)⟩
  have fin2 : ∀ x : Int, x = clamp m → RefTo b n n (clamp m) true w (.returned (.tuple #[])) ((((w.setCell ⟨b, 3, none⟩ (.bool true)).setCell ⟨b, 1, none⟩ (.int .i64 n)).setCell ⟨b, 2, none⟩ (.int .i64 m)).setCell ⟨b, 2, none⟩ (.int .i64 x)) := by
    rintro x rfl
    exact ⟨rfl, (((h.put 3 _).put 1 _).put 2 _).put 2 _, grown_trans (grown_trans (grown_trans (grown_put w ⟨b, 3, none⟩ _) (grown_put _ ⟨b, 1, none⟩ _)) (grown_put _ ⟨b, 2, none⟩ _)) (grown_put _ ⟨b, 2, none⟩ _)⟩
  have FIN := Lib.hid fin
  have FIN2 := Lib.hid fin2
  clear fin fin2
  by_cases c1 : m < 0
  · have e := FIN2.out 0 (by unfold clamp; rw [if_pos c1])
    have E := Lib.hid e
    clear e FIN FIN2
    have c2 : m ≤ 1000 := by omega
    go_enter Try.func18, Try.ntmps18
    go_wp2
    go_end0
    exact E.out
  · by_cases c2 : 1000 < m
    · have e := FIN2.out 1000 (by unfold clamp; rw [if_neg c1, if_pos c2])
      have E := Lib.hid e
      clear e FIN FIN2
      go_enter Try.func18, Try.ntmps18
      go_wp2
      go_end0
      exact E.out
    · have e := FIN.out m (by unfold clamp; rw [if_neg c1, if_neg c2])
      have E := Lib.hid e
      clear e FIN FIN2
      go_enter Try.func18, Try.ntmps18
      go_wp2
      go_end0
      exact E.out

theorem rrest_any (w : World) (b : Nat) (n s t : Int) (f : Bool) (h : Ref w b n s t f) :
    Calls Try.prog 20 #[.pointer (some ⟨b, 0, none⟩)] w (RefTo b n s t false w) := by
  have h3 := h.cell 3
  have g3 := h.free 3
  simp at h3
  go_enter Try.func20, Try.ntmps20
  go_wp2
  go_end0
  exact ⟨rfl, h.put 3 _, grown_put _ ⟨b, 3, none⟩ _⟩

theorem rover_any (w : World) (b : Nat) (n s t : Int) (f o : Bool) (h : Ref w b n s t f) (ho : Hid ((f && decide (t ≤ wrap64 (n - s))) = o)) :
    Calls Try.prog 24 #[.pointer (some ⟨b, 0, none⟩)] w fun e w' => e = .returned (.bool o) ∧ ∃ k, w' = w.drewN k := by
  have h0 := h.cell 0
  have h1 := h.cell 1
  have h2 := h.cell 2
  have h3 := h.cell 3
  simp at h0 h1 h2 h3
  obtain rfl := ho.out
  clear ho
  cases f with
  | true =>
    go_enter Try.func24, Try.ntmps24
    go_wp2
    go_quiet (fail)
    go_wp2
    go_ret
    exact ⟨rfl, _, rfl⟩
  | false =>
    go_enter Try.func24, Try.ntmps24
    go_wp2
    go_quiet (fail)
    go_wp2
    go_ret
    exact ⟨rfl, _, rfl⟩

end Go.Proofs.Ytbaljleimiflmaa.Clk

/-
  The walk of NetOrder: it answers true of every list of items and touches nothing elder. Conditions: the items lie in memory as a slice does.
-/
import Derived.Test.YtbaljleimiflmaaNetG
import Derived.StillTailTactics
import Derived.Deep.QuietTactic
import Derived.BigQuiet
namespace Go.Proofs.Ytbaljleimiflmaa.Net
open Go.RowKit Go.Proofs.Ytbaljleimiflmaa.PNetTells Go.Proofs.YtbaljleimiflmaaW.PrintWords Go.Proofs.YtbaljleimiflmaaW.PrintLast
attribute [local go_sem high] eqA72

theorem cell_lt {w : World} {a : Addr} {v : Value} (h : w.cell? a = some v) : a.block < w.heap.size := by
  rcases Nat.lt_or_ge a.block w.heap.size with h' | h'
  · exact h'
  · simp [World.cell?, Array.getElem?_eq_none h'] at h
/-- An item of a list that came in, in a later world. -/
def ItemIn (w : World) (ad : Addr) (k : Nat) (x : S72) : Prop := w.cell? (ad.add (k * 2)) = some (.int .i64 x.f0) ∧ w.cell? ⟨(ad.add (k * 2)).block, (ad.add (k * 2)).off + 1, none⟩ = some (.string x.f1)
theorem came_at {w w1 : World} {A : Option Addr} {l : List S72} (hl : Kd.C k72 w A l.length l) (hb : Below w.heap.size w w1) (k : Nat) (hk : k < l.length) : ∃ ad, A = some ad ∧ ItemIn w1 ad k (l.getD k z72) := by
  obtain ⟨ad, e, h0, h1⟩ := at_T72 hl (k : Int) (by omega) (by omega)
  rw [Int.toNat_natCast] at h0 h1
  exact ⟨ad, e, (hb.cell (cell_lt h0)).trans h0, (hb.cell (cell_lt h1)).trans h1⟩
theorem take_snoc72 (l : List S72) (k : Nat) (hk : k < l.length) : l.take k ++ [⟨(l.getD k z72).f0, (l.getD k z72).f1⟩] = l.take (k + 1) := by
  have e : (⟨(l.getD k z72).f0, (l.getD k z72).f1⟩ : S72) = l[k] := by
    rw [List.getD_eq_getElem?_getD, List.getElem?_eq_getElem hk]; rfl
  rw [e, List.take_succ_eq_append_getElem hk]
theorem drop_head72 (l : List S72) (k : Nat) (hk : k < l.length) : (l.drop k).getD 0 z72 = l.getD k z72 := by
  simp [List.getD_eq_getElem?_getD, hk]
theorem drop_tail72 (l : List S72) (k : Nat) : (l.drop k).eraseIdx 0 = l.drop (k + 1) := by
  simp

/-- Too many items: the small example alone. -/
theorem order_far (A : Option Addr) (l : List S72) (cap : Nat) (w : World) (h : 100 < l.length) (hm : l.length ≤ 9223372036854775807) :
    Calls Try.prog 11 #[.slice A l.length cap] w fun e w' => e = .returned (.bool true) ∧ Below w.heap.size w w' := by
  go_enter Try.func11, Try.ntmps11
  go_wp2_with fail
  refine (wakes_any _).mono ?_; rintro e w8 ⟨rfl, hb⟩
  go_wp2_with fail
  go_ret
  exact ⟨rfl, hb⟩

set_option maxHeartbeats 1600000 in
set_option maxRecDepth 100000 in
theorem order_near (A : Option Addr) (l : List S72) (cap : Nat) (w : World) (hn : l.length ≤ 100) (hl : Kd.C k72 w A l.length l) :
    Calls Try.prog 11 #[.slice A l.length cap] w fun e w' => e = .returned (.bool true) ∧ Below w.heap.size w w' := by
  have HL := Aside0.mk hl
  clear hl
  have hu72 := Try.underlying72
  go_enter Try.func11, Try.ntmps11
  go_wp2_with fail
  go_loopw [4] (fun i wr => ∃ k : Nat, k ≤ l.length ∧ i = .int .i64 k ∧ NSt w w.heap.size w.heap.size (fun _ => False) (l.take k) wr) (fun i _ => l.length - (intOf i).toNat)
  case atStart => exact ⟨0, Nat.zero_le _, rfl, by rw [List.take_zero]; exact NSt.new w⟩
  case round =>
    obtain ⟨k, hk, rfl, hs⟩ := hrel
    by_cases hlt : k < l.length
    · obtain ⟨ad, rfl, hi⟩ := came_at HL.out hs.old k hlt
      have ht := take_snoc72 l k hlt
      have HT := Lib.hid ht
      clear ht
      obtain ⟨hx0, hx1⟩ := hi
      generalize l.getD k z72 = x at *
      have b1 : (k : Int) < (l.length : Int) := by omega
      have ks : (l.take k).length ≤ 100 := by rw [List.length_take]; omega
      have HS := Lib.hid hs
      clear hs
      go_wp2_with fail
      go_still_tail 10, (by kernel_rfl)
      change wpList _ _ _ _ _ (World.drew _)
      have S2 : NSt w w.heap.size w.heap.size (fun _ => False) (l.take k) wr.drew := HS.out.drewN 1
      go_wp2_with fail
      refine (put_s S2 (by omega) x.f0 x.f1).mono ?_; rintro e w2 ⟨rfl, hs2, _⟩
      rw [HT.out] at hs2
      clear S2 hx0 hx1 HS HT
      go_wp2_with fail
      go_roundw
      case rel => exact ⟨k + 1, by omega, by go_num, hs2⟩
      case measure => simp [intOf]; omega
    · obtain rfl : k = l.length := by omega
      rw [List.take_length] at hs
      clear hlt hk
      go_wp2_with fail
      go_loopw [5] (fun i wr => ∃ k : Nat, k ≤ l.length ∧ i = .int .i64 k ∧ NSt w w.heap.size w.heap.size (fun _ => False) (l.drop k) wr) (fun i _ => l.length - (intOf i).toNat)
      case atStart => exact ⟨0, Nat.zero_le _, rfl, by rw [List.drop_zero]; exact hs⟩
      case round =>
        clear hs
        obtain ⟨k, hk, rfl, hs⟩ := hrel
        by_cases hlt : k < l.length
        · go_wp2_with fail
          refine (take_s hs 0 (by rw [List.length_drop]; omega)).mono ?_; rintro e w2 ⟨rfl, hs2, _⟩
          rw [drop_tail72] at hs2
          rw [drop_head72 l k hlt]
          obtain ⟨ad, rfl, hi⟩ := came_at HL.out hs2.old k hlt
          obtain ⟨hx0, hx1⟩ := hi
          generalize l.getD k z72 = x at *
          have hlt2 := cell_lt hx0
          have b1 : (k : Int) < (l.length : Int) := by omega
          clear hs
          unfold Item
          go_wp2_with fail
          go_quiet (fail)
          go_wp2
          go_roundw
          case rel => exact ⟨k + 1, by omega, by go_num, ((hs2.more _).fewer (fun _ h => h.elim)).drewN _⟩
          case measure => simp [intOf]; omega
        · obtain rfl : k = l.length := by omega
          rw [List.drop_length] at hs
          clear hlt hk
          go_wp2_with fail
          refine (take_f hs 0 (by simp)).mono ?_; rintro e w2 ⟨rfl, hs2, _⟩
          have S2 := ((hs2.more (.cells #[.int .i64 z72.f0, .string z72.f1] 72)).fewer (S' := fun _ => False) (fun _ h => h.elim))
          clear hs hs2
          unfold Item
          go_wp2_with fail
          refine (all_s S2 (by simp)).mono ?_; rintro e w3 ⟨A', c', rfl, _, hs3, _⟩
          go_wp2_with fail
          refine (wakes_any _).mono ?_; rintro e w4 ⟨rfl, hb⟩
          go_wp2_with fail
          go_ret
          exact ⟨rfl, hs3.old.trans (hb.mono hs3.size.1)⟩

theorem netOrder_any (A : Option Addr) (l : List S72) (cap : Nat) (w : World) (hm : l.length ≤ 9223372036854775807) (hl : Kd.C k72 w A l.length l) :
    Calls Try.prog 11 #[.slice A l.length cap] w fun e w' => e = .returned (.bool true) ∧ Below w.heap.size w w' := by
  by_cases h : l.length ≤ 100
  · exact order_near A l cap w h hl
  · exact order_far A l cap w (by omega) hm

end Go.Proofs.Ytbaljleimiflmaa.Net

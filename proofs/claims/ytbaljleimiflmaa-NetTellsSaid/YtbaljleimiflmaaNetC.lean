/-
  slices.Delete of one item of a row of one's own. Conditions: the row is there, the item's number lies in it.
-/
import Derived.Test.YtbaljleimiflmaaNetB
import Derived.Deep.RegionLaw
namespace Go.Proofs.Ytbaljleimiflmaa.Net
open Go.RowKit Go.Proofs.Ytbaljleimiflmaa.PNetTells Go.Proofs.YtbaljleimiflmaaW.PrintWords Go.Proofs.YtbaljleimiflmaaW.PrintLast

def DelTo (B : Nat) (w0 w : World) (g c : Nat) (xs : List S72) (i : Nat) (e : Ending) (w' : World) : Prop :=
  e = .returned (.slice (some ⟨g, 0, none⟩) (xs.length - 1) c) ∧ Kd.R k72 72 w' B (fun _ => True) (.slice (some ⟨g, 0, none⟩) (xs.length - 1) c) (xs.eraseIdx i) ∧ Below B w0 w' ∧ KeepBut w w' g none

theorem zcells72 : (Builtin.zeroCells (Value.agg #[.int .i64 0, .string ⟨#[]⟩]).cells 1).toList = [.int .i64 0, .string ⟨#[]⟩] := by kernel_rfl

/-- clear of the one element behind a row of one's own, within its array. -/
theorem clear_tail {w : World} {B g c m : Nat} {ys : List S72} (ho : Kd.R k72 72 w B (fun _ => True) (.slice (some ⟨g, 0, none⟩) m c) ys) (hm : m < c) (q d : Nat) (hq : q = 1) (ty : TypeId) :
    ∃ w2, (Builtin.clear_ #[63] ty #[.slice (some ⟨g, m * 2, none⟩) q d]).run Try.prog w = .ok (.tuple #[]) w2 ∧ Kd.R k72 72 w2 B (fun _ => True) (.slice (some ⟨g, 0, none⟩) m c) ys ∧ w.grownBy w2 (some g) := by
  subst hq
  obtain ⟨hok, inner, ⟨hin, h2⟩, hr⟩ := ho
  rcases h2 with ⟨h3, _⟩ | ⟨g', cap, cur, h3, hg, hh, hnc, hcm, hcs, htake⟩
  · cases h3
  · injection h3 with e1 e2 e3
    injection e1 with e1
    injection e1 with e1
    subst e1
    subst e2
    subst e3
    have hfit : ys.length * 2 + ([.int .i64 0, .string ⟨#[]⟩] : List Value).length ≤ cur.size := by
      have e : k72.sz = 2 := rfl
      rw [hcs, e]; simp; omega
    obtain ⟨cur', h3, h4, h5⟩ := setCells_row [.int .i64 0, .string ⟨#[]⟩] (ys.length * 2) w cur hh hfit
    obtain ⟨s1, s2, s3, s4⟩ := setCells_same g ([.int .i64 0, .string ⟨#[]⟩] : List Value) (ys.length * 2) w
    have hfar : ∀ k', k' ≠ g → (w.setCells g (ys.length * 2) [.int .i64 0, .string ⟨#[]⟩]).heap[k']? = w.heap[k']? := fun k' hk' => setCells_far _ _ k' hk'
    have hst := run_storeCells_cells (P := Try.prog) g (ys.length * 2) [.int .i64 0, .string ⟨#[]⟩] 0 w (fun j hj => by
        rw [Nat.add_zero, blk_cell hh]
        simp at hj hfit ⊢
        omega) (fun j _ => by rw [Nat.add_zero]; exact blk_frozen hh _) (by intro v hv; simp at hv; rcases hv with rfl | rfl <;> rfl)
    rw [Nat.add_zero] at hst
    refine ⟨w.setCells g (ys.length * 2) [.int .i64 0, .string ⟨#[]⟩], ?_, ⟨hok, inner, ⟨hin, .inr ⟨g, c, cur', rfl, hg, h3, hnc, hcm, by rw [h4, hcs], ?_⟩⟩, hr.imp_ (fun p q hp => ?_)⟩, ⟨s1, s2, s3, by rw [s4]; exact Nat.le_refl _, fun k' _ hk' => hfar k' (fun he => hk' (by rw [he]))⟩⟩
    · simp [Builtin.clear_, run_underlying Try.underlying63, zcells72, hst]
    · rw [h5, ← htake]
      have e : k72.sz = 2 := rfl
      have h6 : cur.toList.length = c * 2 := by rw [Array.length_toList (xs := cur), hcs, e]
      rw [e, List.append_assoc, List.take_append_of_le_length (by rw [List.length_take, h6]; omega), List.take_take, Nat.min_self]
    · exact k72_KM (w := w) p q (k72_MK p q hp)

theorem delete_any (w0 w : World) (B g c : Nat) (xs : List S72) (i : Nat) (hi : i < xs.length) (HO : Kd.R k72 72 w B (fun _ => True) (.slice (some ⟨g, 0, none⟩) xs.length c) xs) (HB : Below B w0 w) (hB : B ≤ w.heap.size) (hc : xs.length ≤ c) (_hm : c ≤ 9223372036854775807) :
    Calls Try.prog 46 #[.slice (some ⟨g, 0, none⟩) xs.length c, .int .i64 i, .int .i64 ((i : Int) + 1)] w (DelTo B w0 w g c xs i) := by
  have O := Aside0.mk HO
  have HBB := Aside0.mk HB
  clear HO HB
  have e1 : ((i : Int) == (i : Int) + 1) = false := by simp; omega
  have b1 : 0 ≤ (i : Int) + 1 := by omega
  have b2 : ((i : Int) + 1).toNat = i + 1 := by omega
  have hu72 := Try.underlying72
  obtain ⟨A2, hA2, hA3⟩ : ∃ A2 : Addr, (if c = i + 1 then some (⟨g, 0, none⟩ : Addr) else some ⟨g, (i + 1) * 2, none⟩) = some A2 ∧ some A2 = (if c = i + 1 then some (⟨g, 0, none⟩ : Addr) else (some (⟨g, 0, none⟩ : Addr)).map (·.add ((i + 1) * k72.sz))) := by
    by_cases h : c = i + 1
    · exact ⟨⟨g, 0, none⟩, by rw [if_pos h], by rw [if_pos h]⟩
    · exact ⟨⟨g, (i + 1) * 2, none⟩, by rw [if_neg h], by rw [if_neg h]; simp [Addr.add, show k72.sz = 2 from rfl]⟩
  have HA3 := Lib.hid hA3
  clear hA3
  have hic : i + 1 ≤ c := by omega
  have b3 : (i : Int) + 1 ≤ (xs.length : Int) := by omega
  have hic2 : i ≤ c := by omega
  go_enter Try.func46, Try.ntmps46
  go_wp2_with fail
  go_region_law (refine Kd.R_delete_step k72 (w0 := w0) B (by simp [Region.wanted]) (.tmp 22) (.tmp 25) 63 72 rfl Try.underlying63 rfl (g := g) (n := xs.length) (c := c) (k := i) (A := some A2) (m := xs.length - (i + 1)) (c2 := c - (i + 1)) (xs := xs) (ok := fun _ => True) (by simp [Act.eval, Act.put]) (by simp [Act.eval, Act.put]) HA3.out rfl (Kd.R_drew O.out) hi (below_drew1 HBB.out) hB ?_; intro w1 ho1 hb1 hg1; have O1 := Aside0.mk ho1; have B1 := Aside0.mk hb1; have G1 := Aside0.mk hg1; clear ho1 hb1 hg1)
  obtain ⟨w2, hcl, ho2, hg2⟩ := clear_tail O1.out (by omega) (xs.length - (xs.length - 1)) (c - (xs.length - 1)) (by omega) 0
  have O2 := Aside0.mk ho2
  have G2 := Aside0.mk hg2
  clear ho2 hg2
  go_wp2_with fail
  go_ret
  refine ⟨rfl, O2.out, B1.out.grown G2.out (Nat.le_trans hB (by have := G1.out.size; simpa using this)) (fun k e => by injection e with e; subst e; exact Kd.R_base O.out _ (by simp [Value.ownBlock])), ?_⟩
  have h1 := G1.out.size
  simp at h1
  exact ⟨Nat.le_trans h1 G2.out.size, fun k hk hg _ => (G2.out.block k (Nat.lt_of_lt_of_le hk h1) (by simpa using hg)).trans (G1.out.block k hk (by simpa using hg))⟩

end Go.Proofs.Ytbaljleimiflmaa.Net

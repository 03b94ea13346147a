/-
  The walk of NetTells: it answers true of every list of acts and touches nothing elder. Conditions: the acts lie in memory as a slice does.
-/
import Derived.Test.YtbaljleimiflmaaNetT3
namespace Go.Proofs.Ytbaljleimiflmaa.Net
open Go.RowKit Go.Proofs.Ytbaljleimiflmaa.PNetTells Go.Proofs.YtbaljleimiflmaaW.PrintWords Go.Proofs.YtbaljleimiflmaaW.PrintLast
attribute [local go_sem high] eqA72

set_option maxHeartbeats 8000000 in
set_option maxRecDepth 100000 in
theorem tells_main (A : Option Addr) (l : List S68) (cap kf : Nat) (w : World) (hn : l.length ≤ 100) (hl : Kd.C k68 w A l.length l) (hc : l.length ≤ cap) (hf : billetlaw25_fair.f kf l = some true) :
    Calls Try.prog 10 #[.slice A l.length cap] w fun e w' => e = .returned (.bool true) ∧ Below w.heap.size w w' := by
  have HF := Aside0.mk (billetlaw25_fair.calls kf A cap l true w hl hc hf)
  have HL := Aside0.mk hl
  clear hl hf
  have hu72 := Try.underlying72
  have hu71 := Try.underlying71
  have hu68 := Try.underlying68
  go_enter Try.func10, Try.ntmps10
  go_wp2_with fail
  refine HF.out.mono ?_; rintro e w1 ⟨rfl, n, hn1⟩
  have ho : Below w.heap.size w w1 := by rw [hn1]; exact pw_below_drewN (Below.refl _ _) n
  have hsz : w.heap.size = w1.heap.size := by rw [hn1]; rfl
  have HO := Aside0.mk ho
  have HZ := Lib.hid hsz
  have HL1 := Aside0.mk (Kd.C_below HL.out ho)
  clear HF HL hn1 ho hsz
  go_wp2_with fail
  go_loopw [4, 5] (fun q i wr => ∃ (k : Nat) (Aq : Option Addr) (cq : Nat) (xs : List S72), k ≤ l.length ∧ i = .int .i64 k ∧ q = .slice Aq xs.length cq ∧ xs.length ≤ k ∧ LSt w1 wr (.slice Aq xs.length cq) xs) (fun _ i _ => l.length - (intOf i).toNat)
  case atStart => exact ⟨0, none, 0, [], Nat.zero_le _, rfl, rfl, Nat.le_refl _, LSt.new w1⟩
  case round =>
    obtain ⟨k, Aq, cq, xs, hk, rfl, rfl, hxk, hs⟩ := hrel
    by_cases hlt : k < l.length
    · have bk : (k : Int) < (l.length : Int) := by omega
      obtain ⟨ad, rfl, hx0, hx1, hx2⟩ := act_at HL1.out hs.1.old k hlt
      generalize (l.getD k z68).f0 = kind at *
      generalize (l.getD k z68).f1 = N at *
      generalize (l.getD k z68).f2 = t at *
      have hq := LSt.act hs kind N t
      have hlt0 := cell_lt hx0
      obtain ⟨X, hX⟩ : ∃ X, X = wr.heap.size := ⟨_, rfl⟩
      rw [← hX] at hq
      have HX := Lib.hid hX
      have T0 := Aside0.mk hq
      have hz : xs.length ≤ 1000 := by omega
      clear hs hq hX
      by_cases c0 : kind = 0
      · subst c0
        by_cases th : 0 ≤ N ∧ N < (xs.length : Int)
        · obtain ⟨h1, h2⟩ := th
          have hN : ((N.toNat : Nat) : Int) = N := Int.toNat_of_nonneg h1
          have hi : N.toNat < xs.length := by omega
          as_aux_lemma =>
            go_wp2_with fail
            rw [HX.out] at T0
            refine (put_s T0.out.1 (by omega) N t).mono ?_; rintro e w2 hst

            obtain ⟨rfl, T2⟩ := T0.out.step hst
            obtain ⟨cX0, cX1, cX2, lX⟩ := T2.cells
            have TT := Aside0.mk T2
            clear hst T2 T0

            have HC2 := Aside0.mk (Kd.R_reads' TT.out.2.1).2.2
            rw [List.length_map] at HC2
            go_wp2_with fail
            go_region_held3 (fun w' => w'.cell? ⟨wr.heap.size, 1, none⟩ = some (.int .i64 N) ∧ w'.cell? ⟨wr.heap.size, 2, none⟩ = some (.string t))
              (first | go_keep | exact ⟨(B55.out.cell (p := ⟨wr.heap.size, 1, none⟩) lX).trans cX1, (B55.out.cell (p := ⟨wr.heap.size, 2, none⟩) lX).trans cX2⟩ | exact ⟨(B48.out.cell (p := ⟨wr.heap.size, 1, none⟩) lX).trans cX1, (B48.out.cell (p := ⟨wr.heap.size, 2, none⟩) lX).trans cX2⟩)
              (first | ((with_reducible refine gate_step 48 rfl ?_); (refine Kd.R_append_rows_step k71 (w0 := w2) w2.heap.size ?hW (.tmp 46) (.tmp 47) 66 71 (.agg #[(.int .i64 0), (.string ⟨#[]⟩)]) 24 rfl Try.underlying66 info71 rfl (by decide) (by omega) (.slice (some ⟨w2.heap.size, 0, none⟩) 0 0) [] (xs.map cv) Aq xs.length cq (fun _ => True) (fun _ => False) ?e1 ?e2 (R71_empty ?h1 ?h2) (C71_below HC2.out ?hR) (fun x cs h => k71_KM x cs h) (fun _ h => h.elim) (fun _ _ => trivial) ?hB ?hS ?hL ?_); (case hW => simp [Region.wanted]); (case e1 => (simp [Act.eval]; done)); (case e2 => simp [Act.eval]); (case h1 => ((repeat (first | with_reducible exact L48.out | with_reducible refine drew_at ?_ | ((with_reducible refine new_at ?_); (simp; done)) | with_reducible refine old_at ?_)); done)); (case h2 => simp); (case hL => simp; omega); (case hR => first | ((repeat (first | exact Below.refl _ _ | refine below_drew1 ?_ | refine bel_alloc ?_ _)); done) | ((repeat (first | exact B48.out | refine below_drew1 ?_ | refine bel_alloc ?_ _)); done)); (case hB => first | ((repeat (first | exact Below.refl _ _ | refine below_drew1 ?_ | refine bel_alloc ?_ _)); done) | ((repeat (first | exact B48.out | refine below_drew1 ?_ | refine bel_alloc ?_ _)); done)); (case hS => exact bel_size (by first | ((repeat (first | exact Below.refl _ _ | refine below_drew1 ?_ | refine bel_alloc ?_ _)); done) | ((repeat (first | exact B48.out | refine below_drew1 ?_ | refine bel_alloc ?_ _)); done))); intro v4 w4 ho4 hb4 hg4 _; have O48 := Aside0.mk ho4; have B48 := Aside0.mk hb4; (first | ((refine have l48 : w4.heap[w2.heap.size + 1]? = some (.cells #[.int .i64 N, .string t] 71 (0, 0)) := grown_at hg4 ?q ?r; ?_); (case q => simp [Value.ownBlock]); (case r => ((repeat (first | with_reducible exact L48.out | with_reducible refine drew_at ?_ | ((with_reducible refine new_at ?_); (simp; done)) | with_reducible refine old_at ?_)); done)); have L48 := Aside0.mk l48; clear l48) | ((refine have l48 : w4.heap[w2.heap.size]? = some (.cells #[.int .i64 N, .string t] 71 (0, 0)) := grown_at hg4 ?q ?r; ?_); (case q => simp [Value.ownBlock]); (case r => ((repeat (first | with_reducible exact L48.out | with_reducible refine drew_at ?_ | ((with_reducible refine new_at ?_); (simp; done)) | with_reducible refine old_at ?_)); done)); have L48 := Aside0.mk l48; clear l48) | skip); clear ho4 hb4 hg4) | ((with_reducible refine gate_step 48 rfl ?_); (refine Kd.R_append_rows_step k71 (w0 := w2) w2.heap.size ?hW (.tmp 46) (.tmp 47) 66 71 (.agg #[(.int .i64 0), (.string ⟨#[]⟩)]) 24 rfl Try.underlying66 info71 rfl (by decide) (by omega) (.slice (some ⟨w2.heap.size + 1, 0, none⟩) 0 0) [] (xs.map cv) Aq xs.length cq (fun _ => True) (fun _ => False) ?e1 ?e2 (R71_empty ?h1 ?h2) (C71_below HC2.out ?hR) (fun x cs h => k71_KM x cs h) (fun _ h => h.elim) (fun _ _ => trivial) ?hB ?hS ?hL ?_); (case hW => simp [Region.wanted]); (case e1 => (simp [Act.eval]; done)); (case e2 => simp [Act.eval]); (case h1 => ((repeat (first | with_reducible exact L48.out | with_reducible refine drew_at ?_ | ((with_reducible refine new_at ?_); (simp; done)) | with_reducible refine old_at ?_)); done)); (case h2 => simp); (case hL => simp; omega); (case hR => first | ((repeat (first | exact Below.refl _ _ | refine below_drew1 ?_ | refine bel_alloc ?_ _)); done) | ((repeat (first | exact B48.out | refine below_drew1 ?_ | refine bel_alloc ?_ _)); done)); (case hB => first | ((repeat (first | exact Below.refl _ _ | refine below_drew1 ?_ | refine bel_alloc ?_ _)); done) | ((repeat (first | exact B48.out | refine below_drew1 ?_ | refine bel_alloc ?_ _)); done)); (case hS => exact bel_size (by first | ((repeat (first | exact Below.refl _ _ | refine below_drew1 ?_ | refine bel_alloc ?_ _)); done) | ((repeat (first | exact B48.out | refine below_drew1 ?_ | refine bel_alloc ?_ _)); done))); intro v4 w4 ho4 hb4 hg4 _; have O48 := Aside0.mk ho4; have B48 := Aside0.mk hb4; (first | ((refine have l48 : w4.heap[w2.heap.size + 1]? = some (.cells #[.int .i64 N, .string t] 71 (0, 0)) := grown_at hg4 ?q ?r; ?_); (case q => simp [Value.ownBlock]); (case r => ((repeat (first | with_reducible exact L48.out | with_reducible refine drew_at ?_ | ((with_reducible refine new_at ?_); (simp; done)) | with_reducible refine old_at ?_)); done)); have L48 := Aside0.mk l48; clear l48) | ((refine have l48 : w4.heap[w2.heap.size]? = some (.cells #[.int .i64 N, .string t] 71 (0, 0)) := grown_at hg4 ?q ?r; ?_); (case q => simp [Value.ownBlock]); (case r => ((repeat (first | with_reducible exact L48.out | with_reducible refine drew_at ?_ | ((with_reducible refine new_at ?_); (simp; done)) | with_reducible refine old_at ?_)); done)); have L48 := Aside0.mk l48; clear l48) | skip); clear ho4 hb4 hg4) | ((with_reducible refine gate_step 55 rfl ?_); (refine Kd.R_append_rows_step k71 (w0 := w2) w2.heap.size ?hW (.tmp 48) (.tmp 54) 66 71 (.agg #[(.int .i64 0), (.string ⟨#[]⟩)]) 24 rfl Try.underlying66 info71 rfl (by decide) (by omega) v4 (xs.map cv) [⟨N, t⟩] (some ⟨w4.heap.size, 0, none⟩) 1 1 (fun _ => True) (fun _ => False) ?e1 ?e2 ?hO (lit_reads N t ?h1) (fun x cs h => k71_KM x cs h) (fun _ h => h.elim) (fun _ _ => trivial) ?hB ?hS ?hL ?_); (case hW => simp [Region.wanted]); (case e1 => simp [Act.eval]); (case e2 => (simp [Act.eval]; done)); (case hO => exact R71_below O48.out (by ((repeat (first | exact Below.refl _ _ | refine below_drew1 ?_ | refine bel_alloc ?_ _)); done))); (case h1 => ((repeat (first | with_reducible exact L48.out | with_reducible refine drew_at ?_ | ((with_reducible refine new_at ?_); (simp; done)) | with_reducible refine old_at ?_)); done)); (case hL => simp; omega); (case hB => first | ((repeat (first | exact Below.refl _ _ | refine below_drew1 ?_ | refine bel_alloc ?_ _)); done) | ((repeat (first | exact B48.out | refine below_drew1 ?_ | refine bel_alloc ?_ _)); done)); (case hS => exact bel_size (by first | ((repeat (first | exact Below.refl _ _ | refine below_drew1 ?_ | refine bel_alloc ?_ _)); done) | ((repeat (first | exact B48.out | refine below_drew1 ?_ | refine bel_alloc ?_ _)); done))); intro v5 w5 ho5 hb5 _ _; have O55 := Aside0.mk ho5; have B55 := Aside0.mk hb5; clear ho5 hb5) | ((with_reducible refine gate_step 55 rfl ?_); (refine Kd.R_append_rows_step k71 (w0 := w2) w2.heap.size ?hW (.tmp 48) (.tmp 54) 66 71 (.agg #[(.int .i64 0), (.string ⟨#[]⟩)]) 24 rfl Try.underlying66 info71 rfl (by decide) (by omega) v4 (xs.map cv) [⟨N, t⟩] (some ⟨w2.heap.size, 0, none⟩) 1 1 (fun _ => True) (fun _ => False) ?e1 ?e2 ?hO (lit_reads N t ?h1) (fun x cs h => k71_KM x cs h) (fun _ h => h.elim) (fun _ _ => trivial) ?hB ?hS ?hL ?_); (case hW => simp [Region.wanted]); (case e1 => simp [Act.eval]); (case e2 => (simp [Act.eval]; done)); (case hO => exact R71_below O48.out (by ((repeat (first | exact Below.refl _ _ | refine below_drew1 ?_ | refine bel_alloc ?_ _)); done))); (case h1 => ((repeat (first | with_reducible exact L48.out | with_reducible refine drew_at ?_ | ((with_reducible refine new_at ?_); (simp; done)) | with_reducible refine old_at ?_)); done)); (case hL => simp; omega); (case hB => first | ((repeat (first | exact Below.refl _ _ | refine below_drew1 ?_ | refine bel_alloc ?_ _)); done) | ((repeat (first | exact B48.out | refine below_drew1 ?_ | refine bel_alloc ?_ _)); done)); (case hS => exact bel_size (by first | ((repeat (first | exact Below.refl _ _ | refine below_drew1 ?_ | refine bel_alloc ?_ _)); done) | ((repeat (first | exact B48.out | refine below_drew1 ?_ | refine bel_alloc ?_ _)); done))); intro v5 w5 ho5 hb5 _ _; have O55 := Aside0.mk ho5; have B55 := Aside0.mk hb5; clear ho5 hb5) | ((with_reducible refine gate_step 55 rfl ?_); (refine Kd.R_append_rows_step k71 (w0 := w2) w2.heap.size ?hW (.tmp 48) (.tmp 54) 66 71 (.agg #[(.int .i64 0), (.string ⟨#[]⟩)]) 24 rfl Try.underlying66 info71 rfl (by decide) (by omega) v4 (xs.map cv) [⟨N, t⟩] (some ⟨w2.heap.size + 1, 0, none⟩) 1 1 (fun _ => True) (fun _ => False) ?e1 ?e2 ?hO (lit_reads N t ?h1) (fun x cs h => k71_KM x cs h) (fun _ h => h.elim) (fun _ _ => trivial) ?hB ?hS ?hL ?_); (case hW => simp [Region.wanted]); (case e1 => simp [Act.eval]); (case e2 => (simp [Act.eval]; done)); (case hO => exact R71_below O48.out (by ((repeat (first | exact Below.refl _ _ | refine below_drew1 ?_ | refine bel_alloc ?_ _)); done))); (case h1 => ((repeat (first | with_reducible exact L48.out | with_reducible refine drew_at ?_ | ((with_reducible refine new_at ?_); (simp; done)) | with_reducible refine old_at ?_)); done)); (case hL => simp; omega); (case hB => first | ((repeat (first | exact Below.refl _ _ | refine below_drew1 ?_ | refine bel_alloc ?_ _)); done) | ((repeat (first | exact B48.out | refine below_drew1 ?_ | refine bel_alloc ?_ _)); done)); (case hS => exact bel_size (by first | ((repeat (first | exact Below.refl _ _ | refine below_drew1 ?_ | refine bel_alloc ?_ _)); done) | ((repeat (first | exact B48.out | refine below_drew1 ?_ | refine bel_alloc ?_ _)); done))); intro v5 w5 ho5 hb5 _ _; have O55 := Aside0.mk ho5; have B55 := Aside0.mk hb5; clear ho5 hb5) | fail "no arm")
            all_goals
              have TF0 := TT.out.fresh B55.out (q' := v5) (ys' := xs ++ [(⟨N, t⟩ : S72)]) (by rw [List.map_append]; exact O55.out)
              have hR5 := TF0.2.1
              obtain ⟨A5, c5, rfl⟩ := R71_len hR5
              have hlen : (xs ++ [(⟨N, t⟩ : S72)]).length ≤ k + 1 := by simp; omega
              clear hR5 O55 B55 TT HC2
              generalize xs ++ [(⟨N, t⟩ : S72)] = zs at *
              clear cX0 cX1 cX2 lX

              obtain ⟨d0, d1, d2, dX⟩ := TF0.cells
              have TF := Aside0.mk TF0
              clear TF0

              go_wp2_with fail
              refine (all_t TF.out (by omega)).mono ?_; rintro e wa ⟨A9, c9, rfl, hr9, T9⟩
              have C9 := Aside0.mk (alike_t T9 hr9 (by omega))
              clear TF T9 hr9
              go_wp2_with fail
              refine C9.out.mono ?_; rintro e wb ⟨rfl, hT⟩
              have LT := Aside0.mk hT.done
              clear C9 hT
              go_wp2_with fail
              go_roundw
              case rel => exact ⟨k + 1, _, _, _, by omega, by go_num, rfl, hlen, LT.out⟩
              case measure => simp [intOf]; omega
        · have hnot := th
          by_cases h1 : 0 ≤ N
          · have h2 : ¬ N < (xs.length : Int) := fun h => th ⟨h1, h⟩
            clear th
            as_aux_lemma =>
              go_wp2_with fail
              rw [HX.out] at T0
              refine (put_s T0.out.1 (by omega) N t).mono ?_; rintro e w2 hst

              obtain ⟨rfl, T2⟩ := T0.out.step hst
              obtain ⟨cX0, cX1, cX2, lX⟩ := T2.cells
              have TT := Aside0.mk T2
              clear hst T2 T0

              have HC2 := Aside0.mk (Kd.R_reads' TT.out.2.1).2.2
              rw [List.length_map] at HC2
              go_wp2_with fail
              go_region_held3 (fun w' => w'.cell? ⟨wr.heap.size, 1, none⟩ = some (.int .i64 N) ∧ w'.cell? ⟨wr.heap.size, 2, none⟩ = some (.string t))
                (first | go_keep | exact ⟨(B55.out.cell (p := ⟨wr.heap.size, 1, none⟩) lX).trans cX1, (B55.out.cell (p := ⟨wr.heap.size, 2, none⟩) lX).trans cX2⟩ | exact ⟨(B48.out.cell (p := ⟨wr.heap.size, 1, none⟩) lX).trans cX1, (B48.out.cell (p := ⟨wr.heap.size, 2, none⟩) lX).trans cX2⟩)
                (first | ((with_reducible refine gate_step 48 rfl ?_); (refine Kd.R_append_rows_step k71 (w0 := w2) w2.heap.size ?hW (.tmp 46) (.tmp 47) 66 71 (.agg #[(.int .i64 0), (.string ⟨#[]⟩)]) 24 rfl Try.underlying66 info71 rfl (by decide) (by omega) (.slice (some ⟨w2.heap.size, 0, none⟩) 0 0) [] (xs.map cv) Aq xs.length cq (fun _ => True) (fun _ => False) ?e1 ?e2 (R71_empty ?h1 ?h2) (C71_below HC2.out ?hR) (fun x cs h => k71_KM x cs h) (fun _ h => h.elim) (fun _ _ => trivial) ?hB ?hS ?hL ?_); (case hW => simp [Region.wanted]); (case e1 => (simp [Act.eval]; done)); (case e2 => simp [Act.eval]); (case h1 => ((repeat (first | with_reducible exact L48.out | with_reducible refine drew_at ?_ | ((with_reducible refine new_at ?_); (simp; done)) | with_reducible refine old_at ?_)); done)); (case h2 => simp); (case hL => simp; omega); (case hR => first | ((repeat (first | exact Below.refl _ _ | refine below_drew1 ?_ | refine bel_alloc ?_ _)); done) | ((repeat (first | exact B48.out | refine below_drew1 ?_ | refine bel_alloc ?_ _)); done)); (case hB => first | ((repeat (first | exact Below.refl _ _ | refine below_drew1 ?_ | refine bel_alloc ?_ _)); done) | ((repeat (first | exact B48.out | refine below_drew1 ?_ | refine bel_alloc ?_ _)); done)); (case hS => exact bel_size (by first | ((repeat (first | exact Below.refl _ _ | refine below_drew1 ?_ | refine bel_alloc ?_ _)); done) | ((repeat (first | exact B48.out | refine below_drew1 ?_ | refine bel_alloc ?_ _)); done))); intro v4 w4 ho4 hb4 hg4 _; have O48 := Aside0.mk ho4; have B48 := Aside0.mk hb4; (first | ((refine have l48 : w4.heap[w2.heap.size + 1]? = some (.cells #[.int .i64 N, .string t] 71 (0, 0)) := grown_at hg4 ?q ?r; ?_); (case q => simp [Value.ownBlock]); (case r => ((repeat (first | with_reducible exact L48.out | with_reducible refine drew_at ?_ | ((with_reducible refine new_at ?_); (simp; done)) | with_reducible refine old_at ?_)); done)); have L48 := Aside0.mk l48; clear l48) | ((refine have l48 : w4.heap[w2.heap.size]? = some (.cells #[.int .i64 N, .string t] 71 (0, 0)) := grown_at hg4 ?q ?r; ?_); (case q => simp [Value.ownBlock]); (case r => ((repeat (first | with_reducible exact L48.out | with_reducible refine drew_at ?_ | ((with_reducible refine new_at ?_); (simp; done)) | with_reducible refine old_at ?_)); done)); have L48 := Aside0.mk l48; clear l48) | skip); clear ho4 hb4 hg4) | ((with_reducible refine gate_step 48 rfl ?_); (refine Kd.R_append_rows_step k71 (w0 := w2) w2.heap.size ?hW (.tmp 46) (.tmp 47) 66 71 (.agg #[(.int .i64 0), (.string ⟨#[]⟩)]) 24 rfl Try.underlying66 info71 rfl (by decide) (by omega) (.slice (some ⟨w2.heap.size + 1, 0, none⟩) 0 0) [] (xs.map cv) Aq xs.length cq (fun _ => True) (fun _ => False) ?e1 ?e2 (R71_empty ?h1 ?h2) (C71_below HC2.out ?hR) (fun x cs h => k71_KM x cs h) (fun _ h => h.elim) (fun _ _ => trivial) ?hB ?hS ?hL ?_); (case hW => simp [Region.wanted]); (case e1 => (simp [Act.eval]; done)); (case e2 => simp [Act.eval]); (case h1 => ((repeat (first | with_reducible exact L48.out | with_reducible refine drew_at ?_ | ((with_reducible refine new_at ?_); (simp; done)) | with_reducible refine old_at ?_)); done)); (case h2 => simp); (case hL => simp; omega); (case hR => first | ((repeat (first | exact Below.refl _ _ | refine below_drew1 ?_ | refine bel_alloc ?_ _)); done) | ((repeat (first | exact B48.out | refine below_drew1 ?_ | refine bel_alloc ?_ _)); done)); (case hB => first | ((repeat (first | exact Below.refl _ _ | refine below_drew1 ?_ | refine bel_alloc ?_ _)); done) | ((repeat (first | exact B48.out | refine below_drew1 ?_ | refine bel_alloc ?_ _)); done)); (case hS => exact bel_size (by first | ((repeat (first | exact Below.refl _ _ | refine below_drew1 ?_ | refine bel_alloc ?_ _)); done) | ((repeat (first | exact B48.out | refine below_drew1 ?_ | refine bel_alloc ?_ _)); done))); intro v4 w4 ho4 hb4 hg4 _; have O48 := Aside0.mk ho4; have B48 := Aside0.mk hb4; (first | ((refine have l48 : w4.heap[w2.heap.size + 1]? = some (.cells #[.int .i64 N, .string t] 71 (0, 0)) := grown_at hg4 ?q ?r; ?_); (case q => simp [Value.ownBlock]); (case r => ((repeat (first | with_reducible exact L48.out | with_reducible refine drew_at ?_ | ((with_reducible refine new_at ?_); (simp; done)) | with_reducible refine old_at ?_)); done)); have L48 := Aside0.mk l48; clear l48) | ((refine have l48 : w4.heap[w2.heap.size]? = some (.cells #[.int .i64 N, .string t] 71 (0, 0)) := grown_at hg4 ?q ?r; ?_); (case q => simp [Value.ownBlock]); (case r => ((repeat (first | with_reducible exact L48.out | with_reducible refine drew_at ?_ | ((with_reducible refine new_at ?_); (simp; done)) | with_reducible refine old_at ?_)); done)); have L48 := Aside0.mk l48; clear l48) | skip); clear ho4 hb4 hg4) | ((with_reducible refine gate_step 55 rfl ?_); (refine Kd.R_append_rows_step k71 (w0 := w2) w2.heap.size ?hW (.tmp 48) (.tmp 54) 66 71 (.agg #[(.int .i64 0), (.string ⟨#[]⟩)]) 24 rfl Try.underlying66 info71 rfl (by decide) (by omega) v4 (xs.map cv) [⟨N, t⟩] (some ⟨w4.heap.size, 0, none⟩) 1 1 (fun _ => True) (fun _ => False) ?e1 ?e2 ?hO (lit_reads N t ?h1) (fun x cs h => k71_KM x cs h) (fun _ h => h.elim) (fun _ _ => trivial) ?hB ?hS ?hL ?_); (case hW => simp [Region.wanted]); (case e1 => simp [Act.eval]); (case e2 => (simp [Act.eval]; done)); (case hO => exact R71_below O48.out (by ((repeat (first | exact Below.refl _ _ | refine below_drew1 ?_ | refine bel_alloc ?_ _)); done))); (case h1 => ((repeat (first | with_reducible exact L48.out | with_reducible refine drew_at ?_ | ((with_reducible refine new_at ?_); (simp; done)) | with_reducible refine old_at ?_)); done)); (case hL => simp; omega); (case hB => first | ((repeat (first | exact Below.refl _ _ | refine below_drew1 ?_ | refine bel_alloc ?_ _)); done) | ((repeat (first | exact B48.out | refine below_drew1 ?_ | refine bel_alloc ?_ _)); done)); (case hS => exact bel_size (by first | ((repeat (first | exact Below.refl _ _ | refine below_drew1 ?_ | refine bel_alloc ?_ _)); done) | ((repeat (first | exact B48.out | refine below_drew1 ?_ | refine bel_alloc ?_ _)); done))); intro v5 w5 ho5 hb5 _ _; have O55 := Aside0.mk ho5; have B55 := Aside0.mk hb5; clear ho5 hb5) | ((with_reducible refine gate_step 55 rfl ?_); (refine Kd.R_append_rows_step k71 (w0 := w2) w2.heap.size ?hW (.tmp 48) (.tmp 54) 66 71 (.agg #[(.int .i64 0), (.string ⟨#[]⟩)]) 24 rfl Try.underlying66 info71 rfl (by decide) (by omega) v4 (xs.map cv) [⟨N, t⟩] (some ⟨w2.heap.size, 0, none⟩) 1 1 (fun _ => True) (fun _ => False) ?e1 ?e2 ?hO (lit_reads N t ?h1) (fun x cs h => k71_KM x cs h) (fun _ h => h.elim) (fun _ _ => trivial) ?hB ?hS ?hL ?_); (case hW => simp [Region.wanted]); (case e1 => simp [Act.eval]); (case e2 => (simp [Act.eval]; done)); (case hO => exact R71_below O48.out (by ((repeat (first | exact Below.refl _ _ | refine below_drew1 ?_ | refine bel_alloc ?_ _)); done))); (case h1 => ((repeat (first | with_reducible exact L48.out | with_reducible refine drew_at ?_ | ((with_reducible refine new_at ?_); (simp; done)) | with_reducible refine old_at ?_)); done)); (case hL => simp; omega); (case hB => first | ((repeat (first | exact Below.refl _ _ | refine below_drew1 ?_ | refine bel_alloc ?_ _)); done) | ((repeat (first | exact B48.out | refine below_drew1 ?_ | refine bel_alloc ?_ _)); done)); (case hS => exact bel_size (by first | ((repeat (first | exact Below.refl _ _ | refine below_drew1 ?_ | refine bel_alloc ?_ _)); done) | ((repeat (first | exact B48.out | refine below_drew1 ?_ | refine bel_alloc ?_ _)); done))); intro v5 w5 ho5 hb5 _ _; have O55 := Aside0.mk ho5; have B55 := Aside0.mk hb5; clear ho5 hb5) | ((with_reducible refine gate_step 55 rfl ?_); (refine Kd.R_append_rows_step k71 (w0 := w2) w2.heap.size ?hW (.tmp 48) (.tmp 54) 66 71 (.agg #[(.int .i64 0), (.string ⟨#[]⟩)]) 24 rfl Try.underlying66 info71 rfl (by decide) (by omega) v4 (xs.map cv) [⟨N, t⟩] (some ⟨w2.heap.size + 1, 0, none⟩) 1 1 (fun _ => True) (fun _ => False) ?e1 ?e2 ?hO (lit_reads N t ?h1) (fun x cs h => k71_KM x cs h) (fun _ h => h.elim) (fun _ _ => trivial) ?hB ?hS ?hL ?_); (case hW => simp [Region.wanted]); (case e1 => simp [Act.eval]); (case e2 => (simp [Act.eval]; done)); (case hO => exact R71_below O48.out (by ((repeat (first | exact Below.refl _ _ | refine below_drew1 ?_ | refine bel_alloc ?_ _)); done))); (case h1 => ((repeat (first | with_reducible exact L48.out | with_reducible refine drew_at ?_ | ((with_reducible refine new_at ?_); (simp; done)) | with_reducible refine old_at ?_)); done)); (case hL => simp; omega); (case hB => first | ((repeat (first | exact Below.refl _ _ | refine below_drew1 ?_ | refine bel_alloc ?_ _)); done) | ((repeat (first | exact B48.out | refine below_drew1 ?_ | refine bel_alloc ?_ _)); done)); (case hS => exact bel_size (by first | ((repeat (first | exact Below.refl _ _ | refine below_drew1 ?_ | refine bel_alloc ?_ _)); done) | ((repeat (first | exact B48.out | refine below_drew1 ?_ | refine bel_alloc ?_ _)); done))); intro v5 w5 ho5 hb5 _ _; have O55 := Aside0.mk ho5; have B55 := Aside0.mk hb5; clear ho5 hb5) | fail "no arm")
              all_goals
                have TF0 := TT.out.fresh B55.out (q' := v5) (ys' := xs ++ [(⟨N, t⟩ : S72)]) (by rw [List.map_append]; exact O55.out)
                have hR5 := TF0.2.1
                obtain ⟨A5, c5, rfl⟩ := R71_len hR5
                have hlen : (xs ++ [(⟨N, t⟩ : S72)]).length ≤ k + 1 := by simp; omega
                clear hR5 O55 B55 TT HC2
                generalize xs ++ [(⟨N, t⟩ : S72)] = zs at *
                clear cX0 cX1 cX2 lX

                obtain ⟨d0, d1, d2, dX⟩ := TF0.cells
                have TF := Aside0.mk TF0
                clear TF0

                go_wp2_with fail
                refine (all_t TF.out (by omega)).mono ?_; rintro e wa ⟨A9, c9, rfl, hr9, T9⟩
                have C9 := Aside0.mk (alike_t T9 hr9 (by omega))
                clear TF T9 hr9
                go_wp2_with fail
                refine C9.out.mono ?_; rintro e wb ⟨rfl, hT⟩
                have LT := Aside0.mk hT.done
                clear C9 hT
                go_wp2_with fail
                go_roundw
                case rel => exact ⟨k + 1, _, _, _, by omega, by go_num, rfl, hlen, LT.out⟩
                case measure => simp [intOf]; omega
          · clear th
            as_aux_lemma =>
              go_wp2_with fail
              rw [HX.out] at T0
              refine (put_s T0.out.1 (by omega) N t).mono ?_; rintro e w2 hst

              obtain ⟨rfl, T2⟩ := T0.out.step hst
              obtain ⟨cX0, cX1, cX2, lX⟩ := T2.cells
              have TT := Aside0.mk T2
              clear hst T2 T0

              have HC2 := Aside0.mk (Kd.R_reads' TT.out.2.1).2.2
              rw [List.length_map] at HC2
              go_wp2_with fail
              go_region_held3 (fun w' => w'.cell? ⟨wr.heap.size, 1, none⟩ = some (.int .i64 N) ∧ w'.cell? ⟨wr.heap.size, 2, none⟩ = some (.string t))
                (first | go_keep | exact ⟨(B55.out.cell (p := ⟨wr.heap.size, 1, none⟩) lX).trans cX1, (B55.out.cell (p := ⟨wr.heap.size, 2, none⟩) lX).trans cX2⟩ | exact ⟨(B48.out.cell (p := ⟨wr.heap.size, 1, none⟩) lX).trans cX1, (B48.out.cell (p := ⟨wr.heap.size, 2, none⟩) lX).trans cX2⟩)
                (first | ((with_reducible refine gate_step 48 rfl ?_); (refine Kd.R_append_rows_step k71 (w0 := w2) w2.heap.size ?hW (.tmp 46) (.tmp 47) 66 71 (.agg #[(.int .i64 0), (.string ⟨#[]⟩)]) 24 rfl Try.underlying66 info71 rfl (by decide) (by omega) (.slice (some ⟨w2.heap.size, 0, none⟩) 0 0) [] (xs.map cv) Aq xs.length cq (fun _ => True) (fun _ => False) ?e1 ?e2 (R71_empty ?h1 ?h2) (C71_below HC2.out ?hR) (fun x cs h => k71_KM x cs h) (fun _ h => h.elim) (fun _ _ => trivial) ?hB ?hS ?hL ?_); (case hW => simp [Region.wanted]); (case e1 => (simp [Act.eval]; done)); (case e2 => simp [Act.eval]); (case h1 => ((repeat (first | with_reducible exact L48.out | with_reducible refine drew_at ?_ | ((with_reducible refine new_at ?_); (simp; done)) | with_reducible refine old_at ?_)); done)); (case h2 => simp); (case hL => simp; omega); (case hR => first | ((repeat (first | exact Below.refl _ _ | refine below_drew1 ?_ | refine bel_alloc ?_ _)); done) | ((repeat (first | exact B48.out | refine below_drew1 ?_ | refine bel_alloc ?_ _)); done)); (case hB => first | ((repeat (first | exact Below.refl _ _ | refine below_drew1 ?_ | refine bel_alloc ?_ _)); done) | ((repeat (first | exact B48.out | refine below_drew1 ?_ | refine bel_alloc ?_ _)); done)); (case hS => exact bel_size (by first | ((repeat (first | exact Below.refl _ _ | refine below_drew1 ?_ | refine bel_alloc ?_ _)); done) | ((repeat (first | exact B48.out | refine below_drew1 ?_ | refine bel_alloc ?_ _)); done))); intro v4 w4 ho4 hb4 hg4 _; have O48 := Aside0.mk ho4; have B48 := Aside0.mk hb4; (first | ((refine have l48 : w4.heap[w2.heap.size + 1]? = some (.cells #[.int .i64 N, .string t] 71 (0, 0)) := grown_at hg4 ?q ?r; ?_); (case q => simp [Value.ownBlock]); (case r => ((repeat (first | with_reducible exact L48.out | with_reducible refine drew_at ?_ | ((with_reducible refine new_at ?_); (simp; done)) | with_reducible refine old_at ?_)); done)); have L48 := Aside0.mk l48; clear l48) | ((refine have l48 : w4.heap[w2.heap.size]? = some (.cells #[.int .i64 N, .string t] 71 (0, 0)) := grown_at hg4 ?q ?r; ?_); (case q => simp [Value.ownBlock]); (case r => ((repeat (first | with_reducible exact L48.out | with_reducible refine drew_at ?_ | ((with_reducible refine new_at ?_); (simp; done)) | with_reducible refine old_at ?_)); done)); have L48 := Aside0.mk l48; clear l48) | skip); clear ho4 hb4 hg4) | ((with_reducible refine gate_step 48 rfl ?_); (refine Kd.R_append_rows_step k71 (w0 := w2) w2.heap.size ?hW (.tmp 46) (.tmp 47) 66 71 (.agg #[(.int .i64 0), (.string ⟨#[]⟩)]) 24 rfl Try.underlying66 info71 rfl (by decide) (by omega) (.slice (some ⟨w2.heap.size + 1, 0, none⟩) 0 0) [] (xs.map cv) Aq xs.length cq (fun _ => True) (fun _ => False) ?e1 ?e2 (R71_empty ?h1 ?h2) (C71_below HC2.out ?hR) (fun x cs h => k71_KM x cs h) (fun _ h => h.elim) (fun _ _ => trivial) ?hB ?hS ?hL ?_); (case hW => simp [Region.wanted]); (case e1 => (simp [Act.eval]; done)); (case e2 => simp [Act.eval]); (case h1 => ((repeat (first | with_reducible exact L48.out | with_reducible refine drew_at ?_ | ((with_reducible refine new_at ?_); (simp; done)) | with_reducible refine old_at ?_)); done)); (case h2 => simp); (case hL => simp; omega); (case hR => first | ((repeat (first | exact Below.refl _ _ | refine below_drew1 ?_ | refine bel_alloc ?_ _)); done) | ((repeat (first | exact B48.out | refine below_drew1 ?_ | refine bel_alloc ?_ _)); done)); (case hB => first | ((repeat (first | exact Below.refl _ _ | refine below_drew1 ?_ | refine bel_alloc ?_ _)); done) | ((repeat (first | exact B48.out | refine below_drew1 ?_ | refine bel_alloc ?_ _)); done)); (case hS => exact bel_size (by first | ((repeat (first | exact Below.refl _ _ | refine below_drew1 ?_ | refine bel_alloc ?_ _)); done) | ((repeat (first | exact B48.out | refine below_drew1 ?_ | refine bel_alloc ?_ _)); done))); intro v4 w4 ho4 hb4 hg4 _; have O48 := Aside0.mk ho4; have B48 := Aside0.mk hb4; (first | ((refine have l48 : w4.heap[w2.heap.size + 1]? = some (.cells #[.int .i64 N, .string t] 71 (0, 0)) := grown_at hg4 ?q ?r; ?_); (case q => simp [Value.ownBlock]); (case r => ((repeat (first | with_reducible exact L48.out | with_reducible refine drew_at ?_ | ((with_reducible refine new_at ?_); (simp; done)) | with_reducible refine old_at ?_)); done)); have L48 := Aside0.mk l48; clear l48) | ((refine have l48 : w4.heap[w2.heap.size]? = some (.cells #[.int .i64 N, .string t] 71 (0, 0)) := grown_at hg4 ?q ?r; ?_); (case q => simp [Value.ownBlock]); (case r => ((repeat (first | with_reducible exact L48.out | with_reducible refine drew_at ?_ | ((with_reducible refine new_at ?_); (simp; done)) | with_reducible refine old_at ?_)); done)); have L48 := Aside0.mk l48; clear l48) | skip); clear ho4 hb4 hg4) | ((with_reducible refine gate_step 55 rfl ?_); (refine Kd.R_append_rows_step k71 (w0 := w2) w2.heap.size ?hW (.tmp 48) (.tmp 54) 66 71 (.agg #[(.int .i64 0), (.string ⟨#[]⟩)]) 24 rfl Try.underlying66 info71 rfl (by decide) (by omega) v4 (xs.map cv) [⟨N, t⟩] (some ⟨w4.heap.size, 0, none⟩) 1 1 (fun _ => True) (fun _ => False) ?e1 ?e2 ?hO (lit_reads N t ?h1) (fun x cs h => k71_KM x cs h) (fun _ h => h.elim) (fun _ _ => trivial) ?hB ?hS ?hL ?_); (case hW => simp [Region.wanted]); (case e1 => simp [Act.eval]); (case e2 => (simp [Act.eval]; done)); (case hO => exact R71_below O48.out (by ((repeat (first | exact Below.refl _ _ | refine below_drew1 ?_ | refine bel_alloc ?_ _)); done))); (case h1 => ((repeat (first | with_reducible exact L48.out | with_reducible refine drew_at ?_ | ((with_reducible refine new_at ?_); (simp; done)) | with_reducible refine old_at ?_)); done)); (case hL => simp; omega); (case hB => first | ((repeat (first | exact Below.refl _ _ | refine below_drew1 ?_ | refine bel_alloc ?_ _)); done) | ((repeat (first | exact B48.out | refine below_drew1 ?_ | refine bel_alloc ?_ _)); done)); (case hS => exact bel_size (by first | ((repeat (first | exact Below.refl _ _ | refine below_drew1 ?_ | refine bel_alloc ?_ _)); done) | ((repeat (first | exact B48.out | refine below_drew1 ?_ | refine bel_alloc ?_ _)); done))); intro v5 w5 ho5 hb5 _ _; have O55 := Aside0.mk ho5; have B55 := Aside0.mk hb5; clear ho5 hb5) | ((with_reducible refine gate_step 55 rfl ?_); (refine Kd.R_append_rows_step k71 (w0 := w2) w2.heap.size ?hW (.tmp 48) (.tmp 54) 66 71 (.agg #[(.int .i64 0), (.string ⟨#[]⟩)]) 24 rfl Try.underlying66 info71 rfl (by decide) (by omega) v4 (xs.map cv) [⟨N, t⟩] (some ⟨w2.heap.size, 0, none⟩) 1 1 (fun _ => True) (fun _ => False) ?e1 ?e2 ?hO (lit_reads N t ?h1) (fun x cs h => k71_KM x cs h) (fun _ h => h.elim) (fun _ _ => trivial) ?hB ?hS ?hL ?_); (case hW => simp [Region.wanted]); (case e1 => simp [Act.eval]); (case e2 => (simp [Act.eval]; done)); (case hO => exact R71_below O48.out (by ((repeat (first | exact Below.refl _ _ | refine below_drew1 ?_ | refine bel_alloc ?_ _)); done))); (case h1 => ((repeat (first | with_reducible exact L48.out | with_reducible refine drew_at ?_ | ((with_reducible refine new_at ?_); (simp; done)) | with_reducible refine old_at ?_)); done)); (case hL => simp; omega); (case hB => first | ((repeat (first | exact Below.refl _ _ | refine below_drew1 ?_ | refine bel_alloc ?_ _)); done) | ((repeat (first | exact B48.out | refine below_drew1 ?_ | refine bel_alloc ?_ _)); done)); (case hS => exact bel_size (by first | ((repeat (first | exact Below.refl _ _ | refine below_drew1 ?_ | refine bel_alloc ?_ _)); done) | ((repeat (first | exact B48.out | refine below_drew1 ?_ | refine bel_alloc ?_ _)); done))); intro v5 w5 ho5 hb5 _ _; have O55 := Aside0.mk ho5; have B55 := Aside0.mk hb5; clear ho5 hb5) | ((with_reducible refine gate_step 55 rfl ?_); (refine Kd.R_append_rows_step k71 (w0 := w2) w2.heap.size ?hW (.tmp 48) (.tmp 54) 66 71 (.agg #[(.int .i64 0), (.string ⟨#[]⟩)]) 24 rfl Try.underlying66 info71 rfl (by decide) (by omega) v4 (xs.map cv) [⟨N, t⟩] (some ⟨w2.heap.size + 1, 0, none⟩) 1 1 (fun _ => True) (fun _ => False) ?e1 ?e2 ?hO (lit_reads N t ?h1) (fun x cs h => k71_KM x cs h) (fun _ h => h.elim) (fun _ _ => trivial) ?hB ?hS ?hL ?_); (case hW => simp [Region.wanted]); (case e1 => simp [Act.eval]); (case e2 => (simp [Act.eval]; done)); (case hO => exact R71_below O48.out (by ((repeat (first | exact Below.refl _ _ | refine below_drew1 ?_ | refine bel_alloc ?_ _)); done))); (case h1 => ((repeat (first | with_reducible exact L48.out | with_reducible refine drew_at ?_ | ((with_reducible refine new_at ?_); (simp; done)) | with_reducible refine old_at ?_)); done)); (case hL => simp; omega); (case hB => first | ((repeat (first | exact Below.refl _ _ | refine below_drew1 ?_ | refine bel_alloc ?_ _)); done) | ((repeat (first | exact B48.out | refine below_drew1 ?_ | refine bel_alloc ?_ _)); done)); (case hS => exact bel_size (by first | ((repeat (first | exact Below.refl _ _ | refine below_drew1 ?_ | refine bel_alloc ?_ _)); done) | ((repeat (first | exact B48.out | refine below_drew1 ?_ | refine bel_alloc ?_ _)); done))); intro v5 w5 ho5 hb5 _ _; have O55 := Aside0.mk ho5; have B55 := Aside0.mk hb5; clear ho5 hb5) | fail "no arm")
              all_goals
                have TF0 := TT.out.fresh B55.out (q' := v5) (ys' := xs ++ [(⟨N, t⟩ : S72)]) (by rw [List.map_append]; exact O55.out)
                have hR5 := TF0.2.1
                obtain ⟨A5, c5, rfl⟩ := R71_len hR5
                have hlen : (xs ++ [(⟨N, t⟩ : S72)]).length ≤ k + 1 := by simp; omega
                clear hR5 O55 B55 TT HC2
                generalize xs ++ [(⟨N, t⟩ : S72)] = zs at *
                clear cX0 cX1 cX2 lX

                obtain ⟨d0, d1, d2, dX⟩ := TF0.cells
                have TF := Aside0.mk TF0
                clear TF0

                go_wp2_with fail
                refine (all_t TF.out (by omega)).mono ?_; rintro e wa ⟨A9, c9, rfl, hr9, T9⟩
                have C9 := Aside0.mk (alike_t T9 hr9 (by omega))
                clear TF T9 hr9
                go_wp2_with fail
                refine C9.out.mono ?_; rintro e wb ⟨rfl, hT⟩
                have LT := Aside0.mk hT.done
                clear C9 hT
                go_wp2_with fail
                go_roundw
                case rel => exact ⟨k + 1, _, _, _, by omega, by go_num, rfl, hlen, LT.out⟩
                case measure => simp [intOf]; omega
      have b0 : (kind == 0) = false := by simpa using c0
      by_cases c1 : kind = 1
      · subst c1
        by_cases th : 0 ≤ N ∧ N < (xs.length : Int)
        · obtain ⟨h1, h2⟩ := th
          have hN : ((N.toNat : Nat) : Int) = N := Int.toNat_of_nonneg h1
          have hi : N.toNat < xs.length := by omega
          as_aux_lemma =>
            have CD := Aside0.mk (take_s T0.out.1 N.toNat hi)
            rw [hN, HX.out] at CD
            rw [HX.out] at T0
            go_wp2_with fail
            refine CD.out.mono ?_; rintro e w2 hst
            clear CD

            obtain ⟨rfl, T2⟩ := T0.out.step hst
            obtain ⟨cX0, cX1, cX2, lX⟩ := T2.cells
            have TT := Aside0.mk T2
            clear hst T2 T0

            obtain ⟨g, rfl, hg1, hg2, hgc, hgm, hi0, hi1, _, _⟩ := item_cv TT.out.2.1 N.toNat hi
            rw [Item_eq]
            generalize xs.getD N.toNat z72 = y at *
            go_wp2_with fail
            go_quiet (fail)

            have TB := (TT.out.below ((Below.refl w2.heap.size w2).alloc (Nat.le_refl _) (.cells #[.int .i64 y.f0, .string y.f1] 72))).drewN nq
            generalize (w2.alloc (.cells #[.int .i64 y.f0, .string y.f1] 72)).drewN nq = w3 at TB ⊢
            clear TT cX0 cX1 cX2 lX
            obtain ⟨cX0, cX1, cX2, lX⟩ := TB.cells
            have TT := Aside0.mk TB
            clear TB

            clear hi0 hi1

            have CW := Aside0.mk (without_t TT.out N.toNat hi (by omega))
            rw [hN] at CW
            go_wp2_with fail
            refine CW.out.mono ?_; rintro e w5 ⟨A5, c5, rfl, TF0⟩
            clear CW

            have hlen : (xs.eraseIdx N.toNat).length ≤ k + 1 := Nat.le_trans (List.length_eraseIdx_le ..) (by omega)
            clear TT cX0 cX1 cX2 lX
            generalize xs.eraseIdx N.toNat = zs at *

            obtain ⟨d0, d1, d2, dX⟩ := TF0.cells
            have TF := Aside0.mk TF0
            clear TF0

            go_wp2_with fail
            refine (all_t TF.out (by omega)).mono ?_; rintro e wa ⟨A9, c9, rfl, hr9, T9⟩
            have C9 := Aside0.mk (alike_t T9 hr9 (by omega))
            clear TF T9 hr9
            go_wp2_with fail
            refine C9.out.mono ?_; rintro e wb ⟨rfl, hT⟩
            have LT := Aside0.mk hT.done
            clear C9 hT
            go_wp2_with fail
            go_roundw
            case rel => exact ⟨k + 1, _, _, _, by omega, by go_num, rfl, hlen, LT.out⟩
            case measure => simp [intOf]; omega
        · have hnot := th
          by_cases h1 : 0 ≤ N
          · have h2 : ¬ N < (xs.length : Int) := fun h => th ⟨h1, h⟩
            clear th
            as_aux_lemma =>
              go_wp2_with fail
              rw [HX.out] at T0
              refine (take_f T0.out.1 N hnot).mono ?_; rintro e w2 hst

              obtain ⟨rfl, T2⟩ := T0.out.step hst
              obtain ⟨cX0, cX1, cX2, lX⟩ := T2.cells
              have TT := Aside0.mk T2
              clear hst T2 T0

              rw [Item_z]
              go_wp2_with fail
              go_quiet (fail)

              have TB := (TT.out.below ((Below.refl w2.heap.size w2).alloc (Nat.le_refl _) (.cells #[.int .i64 0, .string ⟨#[]⟩] 72))).drewN nq
              generalize (w2.alloc (.cells #[.int .i64 0, .string ⟨#[]⟩] 72)).drewN nq = w3 at TB ⊢
              clear TT cX0 cX1 cX2 lX
              obtain ⟨cX0, cX1, cX2, lX⟩ := TB.cells
              have TT := Aside0.mk TB
              clear TB

              go_wp2_with fail
              refine (all_t TT.out hz).mono ?_; rintro e wa ⟨A9, c9, rfl, hr9, T9⟩
              have C9 := Aside0.mk (alike_t T9 hr9 hz)
              clear T9 hr9
              go_wp2_with fail
              refine C9.out.mono ?_; rintro e wb ⟨rfl, hT⟩
              have LT := Aside0.mk hT.done
              clear C9 hT
              go_wp2_with fail
              go_roundw
              case rel => exact ⟨k + 1, _, _, _, by omega, by go_num, rfl, (by omega), LT.out⟩
              case measure => simp [intOf]; omega
          · clear th
            as_aux_lemma =>
              go_wp2_with fail
              rw [HX.out] at T0
              refine (take_f T0.out.1 N hnot).mono ?_; rintro e w2 hst

              obtain ⟨rfl, T2⟩ := T0.out.step hst
              obtain ⟨cX0, cX1, cX2, lX⟩ := T2.cells
              have TT := Aside0.mk T2
              clear hst T2 T0

              rw [Item_z]
              go_wp2_with fail
              go_quiet (fail)

              have TB := (TT.out.below ((Below.refl w2.heap.size w2).alloc (Nat.le_refl _) (.cells #[.int .i64 0, .string ⟨#[]⟩] 72))).drewN nq
              generalize (w2.alloc (.cells #[.int .i64 0, .string ⟨#[]⟩] 72)).drewN nq = w3 at TB ⊢
              clear TT cX0 cX1 cX2 lX
              obtain ⟨cX0, cX1, cX2, lX⟩ := TB.cells
              have TT := Aside0.mk TB
              clear TB

              go_wp2_with fail
              refine (all_t TT.out hz).mono ?_; rintro e wa ⟨A9, c9, rfl, hr9, T9⟩
              have C9 := Aside0.mk (alike_t T9 hr9 hz)
              clear T9 hr9
              go_wp2_with fail
              refine C9.out.mono ?_; rintro e wb ⟨rfl, hT⟩
              have LT := Aside0.mk hT.done
              clear C9 hT
              go_wp2_with fail
              go_roundw
              case rel => exact ⟨k + 1, _, _, _, by omega, by go_num, rfl, (by omega), LT.out⟩
              case measure => simp [intOf]; omega
      have b1 : (kind == 1) = false := by simpa using c1
      by_cases c2 : kind = 2
      · subst c2
        by_cases th : 0 ≤ N ∧ N < (xs.length : Int)
        · obtain ⟨h1, h2⟩ := th
          have hN : ((N.toNat : Nat) : Int) = N := Int.toNat_of_nonneg h1
          have hi : N.toNat < xs.length := by omega
          as_aux_lemma =>
            have CD := Aside0.mk (drop_s T0.out.1 N.toNat hi)
            rw [hN, HX.out] at CD
            rw [HX.out] at T0
            go_wp2_with fail
            refine CD.out.mono ?_; rintro e w2 hst
            clear CD

            obtain ⟨rfl, T2⟩ := T0.out.step hst
            obtain ⟨cX0, cX1, cX2, lX⟩ := T2.cells
            have TT := Aside0.mk T2
            clear hst T2 T0

            have CW := Aside0.mk (without_t TT.out N.toNat hi (by omega))
            rw [hN] at CW
            go_wp2_with fail
            refine CW.out.mono ?_; rintro e w5 ⟨A5, c5, rfl, TF0⟩
            clear CW

            have hlen : (xs.eraseIdx N.toNat).length ≤ k + 1 := Nat.le_trans (List.length_eraseIdx_le ..) (by omega)
            clear TT cX0 cX1 cX2 lX
            generalize xs.eraseIdx N.toNat = zs at *

            obtain ⟨d0, d1, d2, dX⟩ := TF0.cells
            have TF := Aside0.mk TF0
            clear TF0

            go_wp2_with fail
            refine (all_t TF.out (by omega)).mono ?_; rintro e wa ⟨A9, c9, rfl, hr9, T9⟩
            have C9 := Aside0.mk (alike_t T9 hr9 (by omega))
            clear TF T9 hr9
            go_wp2_with fail
            refine C9.out.mono ?_; rintro e wb ⟨rfl, hT⟩
            have LT := Aside0.mk hT.done
            clear C9 hT
            go_wp2_with fail
            go_roundw
            case rel => exact ⟨k + 1, _, _, _, by omega, by go_num, rfl, hlen, LT.out⟩
            case measure => simp [intOf]; omega
        · have hnot := th
          by_cases h1 : 0 ≤ N
          · have h2 : ¬ N < (xs.length : Int) := fun h => th ⟨h1, h⟩
            clear th
            as_aux_lemma =>
              go_wp2_with fail
              rw [HX.out] at T0
              refine (drop_f T0.out.1 N hnot).mono ?_; rintro e w2 hst

              obtain ⟨rfl, T2⟩ := T0.out.step hst
              obtain ⟨cX0, cX1, cX2, lX⟩ := T2.cells
              have TT := Aside0.mk T2
              clear hst T2 T0

              go_wp2_with fail
              refine (all_t TT.out hz).mono ?_; rintro e wa ⟨A9, c9, rfl, hr9, T9⟩
              have C9 := Aside0.mk (alike_t T9 hr9 hz)
              clear T9 hr9
              go_wp2_with fail
              refine C9.out.mono ?_; rintro e wb ⟨rfl, hT⟩
              have LT := Aside0.mk hT.done
              clear C9 hT
              go_wp2_with fail
              go_roundw
              case rel => exact ⟨k + 1, _, _, _, by omega, by go_num, rfl, (by omega), LT.out⟩
              case measure => simp [intOf]; omega
          · clear th
            as_aux_lemma =>
              go_wp2_with fail
              rw [HX.out] at T0
              refine (drop_f T0.out.1 N hnot).mono ?_; rintro e w2 hst

              obtain ⟨rfl, T2⟩ := T0.out.step hst
              obtain ⟨cX0, cX1, cX2, lX⟩ := T2.cells
              have TT := Aside0.mk T2
              clear hst T2 T0

              go_wp2_with fail
              refine (all_t TT.out hz).mono ?_; rintro e wa ⟨A9, c9, rfl, hr9, T9⟩
              have C9 := Aside0.mk (alike_t T9 hr9 hz)
              clear T9 hr9
              go_wp2_with fail
              refine C9.out.mono ?_; rintro e wb ⟨rfl, hT⟩
              have LT := Aside0.mk hT.done
              clear C9 hT
              go_wp2_with fail
              go_roundw
              case rel => exact ⟨k + 1, _, _, _, by omega, by go_num, rfl, (by omega), LT.out⟩
              case measure => simp [intOf]; omega
      have b2 : (kind == 2) = false := by simpa using c2
      by_cases c3 : kind = 3
      · subst c3
        by_cases th : 0 ≤ N ∧ N < (xs.length : Int)
        · obtain ⟨h1, h2⟩ := th
          have hN : ((N.toNat : Nat) : Int) = N := Int.toNat_of_nonneg h1
          have hi : N.toNat < xs.length := by omega
          as_aux_lemma =>
            have CD := Aside0.mk (twice_s T0.out.1 (by omega) N.toNat hi)
            rw [hN, HX.out] at CD
            rw [HX.out] at T0
            go_wp2_with fail
            refine CD.out.mono ?_; rintro e w2 hst
            clear CD

            obtain ⟨rfl, T2⟩ := T0.out.step hst
            obtain ⟨cX0, cX1, cX2, lX⟩ := T2.cells
            have TT := Aside0.mk T2
            clear hst T2 T0

            have HC2 := Aside0.mk (Kd.R_reads' TT.out.2.1).2.2
            rw [List.length_map] at HC2
            obtain ⟨g, rfl, hg1, hg2, hgc, hgm, hi0, hi1, _, _⟩ := item_cv TT.out.2.1 N.toNat hi
            generalize xs.getD N.toNat z72 = y at *
            go_wp2_with fail
            go_region_held3 (fun w' => w'.cell? ⟨wr.heap.size, 1, none⟩ = some (.int .i64 N) ∧ w'.cell? ⟨g, N.toNat * 2, none⟩ = some (.int .i64 y.f0) ∧ w'.cell? ⟨g, N.toNat * 2 + 1, none⟩ = some (.string y.f1))
              (first | go_keep | exact ⟨(B55.out.cell (p := ⟨wr.heap.size, 1, none⟩) lX).trans cX1, (B55.out.cell (p := ⟨g, N.toNat * 2, none⟩) hg2).trans hi0, (B55.out.cell (p := ⟨g, N.toNat * 2 + 1, none⟩) hg2).trans hi1⟩ | exact ⟨(B48.out.cell (p := ⟨wr.heap.size, 1, none⟩) lX).trans cX1, (B48.out.cell (p := ⟨g, N.toNat * 2, none⟩) hg2).trans hi0, (B48.out.cell (p := ⟨g, N.toNat * 2 + 1, none⟩) hg2).trans hi1⟩)
              (first | ((with_reducible refine gate_step 105 rfl ?_); (refine Kd.R_append_rows_step k71 (w0 := w2) w2.heap.size ?hW (.tmp 103) (.tmp 104) 66 71 (.agg #[(.int .i64 0), (.string ⟨#[]⟩)]) 24 rfl Try.underlying66 info71 rfl (by decide) (by omega) (.slice (some ⟨w2.heap.size, 0, none⟩) 0 0) [] (xs.map cv) (some ⟨g, 0, none⟩) xs.length cq (fun _ => True) (fun _ => False) ?e1 ?e2 (R71_empty ?h1 ?h2) (C71_below HC2.out ?hR) (fun x cs h => k71_KM x cs h) (fun _ h => h.elim) (fun _ _ => trivial) ?hB ?hS ?hL ?_); (case hW => simp [Region.wanted]); (case e1 => (simp [Act.eval]; done)); (case e2 => simp [Act.eval]); (case h1 => ((repeat (first | with_reducible exact L48.out | with_reducible refine drew_at ?_ | ((with_reducible refine new_at ?_); (simp; done)) | with_reducible refine old_at ?_)); done)); (case h2 => simp); (case hL => simp; omega); (case hR => first | ((repeat (first | exact Below.refl _ _ | refine below_drew1 ?_ | refine bel_alloc ?_ _)); done) | ((repeat (first | exact B48.out | refine below_drew1 ?_ | refine bel_alloc ?_ _)); done)); (case hB => first | ((repeat (first | exact Below.refl _ _ | refine below_drew1 ?_ | refine bel_alloc ?_ _)); done) | ((repeat (first | exact B48.out | refine below_drew1 ?_ | refine bel_alloc ?_ _)); done)); (case hS => exact bel_size (by first | ((repeat (first | exact Below.refl _ _ | refine below_drew1 ?_ | refine bel_alloc ?_ _)); done) | ((repeat (first | exact B48.out | refine below_drew1 ?_ | refine bel_alloc ?_ _)); done))); intro v4 w4 ho4 hb4 hg4 _; have O48 := Aside0.mk ho4; have B48 := Aside0.mk hb4; (first | ((refine have l48 : w4.heap[w2.heap.size + 1]? = some (.cells #[.int .i64 y.f0, .string y.f1] 71 (0, 0)) := grown_at hg4 ?q ?r; ?_); (case q => simp [Value.ownBlock]); (case r => ((repeat (first | with_reducible exact L48.out | with_reducible refine drew_at ?_ | ((with_reducible refine new_at ?_); (simp; done)) | with_reducible refine old_at ?_)); done)); have L48 := Aside0.mk l48; clear l48) | ((refine have l48 : w4.heap[w2.heap.size]? = some (.cells #[.int .i64 y.f0, .string y.f1] 71 (0, 0)) := grown_at hg4 ?q ?r; ?_); (case q => simp [Value.ownBlock]); (case r => ((repeat (first | with_reducible exact L48.out | with_reducible refine drew_at ?_ | ((with_reducible refine new_at ?_); (simp; done)) | with_reducible refine old_at ?_)); done)); have L48 := Aside0.mk l48; clear l48) | skip); clear ho4 hb4 hg4) | ((with_reducible refine gate_step 105 rfl ?_); (refine Kd.R_append_rows_step k71 (w0 := w2) w2.heap.size ?hW (.tmp 103) (.tmp 104) 66 71 (.agg #[(.int .i64 0), (.string ⟨#[]⟩)]) 24 rfl Try.underlying66 info71 rfl (by decide) (by omega) (.slice (some ⟨w2.heap.size + 1, 0, none⟩) 0 0) [] (xs.map cv) (some ⟨g, 0, none⟩) xs.length cq (fun _ => True) (fun _ => False) ?e1 ?e2 (R71_empty ?h1 ?h2) (C71_below HC2.out ?hR) (fun x cs h => k71_KM x cs h) (fun _ h => h.elim) (fun _ _ => trivial) ?hB ?hS ?hL ?_); (case hW => simp [Region.wanted]); (case e1 => (simp [Act.eval]; done)); (case e2 => simp [Act.eval]); (case h1 => ((repeat (first | with_reducible exact L48.out | with_reducible refine drew_at ?_ | ((with_reducible refine new_at ?_); (simp; done)) | with_reducible refine old_at ?_)); done)); (case h2 => simp); (case hL => simp; omega); (case hR => first | ((repeat (first | exact Below.refl _ _ | refine below_drew1 ?_ | refine bel_alloc ?_ _)); done) | ((repeat (first | exact B48.out | refine below_drew1 ?_ | refine bel_alloc ?_ _)); done)); (case hB => first | ((repeat (first | exact Below.refl _ _ | refine below_drew1 ?_ | refine bel_alloc ?_ _)); done) | ((repeat (first | exact B48.out | refine below_drew1 ?_ | refine bel_alloc ?_ _)); done)); (case hS => exact bel_size (by first | ((repeat (first | exact Below.refl _ _ | refine below_drew1 ?_ | refine bel_alloc ?_ _)); done) | ((repeat (first | exact B48.out | refine below_drew1 ?_ | refine bel_alloc ?_ _)); done))); intro v4 w4 ho4 hb4 hg4 _; have O48 := Aside0.mk ho4; have B48 := Aside0.mk hb4; (first | ((refine have l48 : w4.heap[w2.heap.size + 1]? = some (.cells #[.int .i64 y.f0, .string y.f1] 71 (0, 0)) := grown_at hg4 ?q ?r; ?_); (case q => simp [Value.ownBlock]); (case r => ((repeat (first | with_reducible exact L48.out | with_reducible refine drew_at ?_ | ((with_reducible refine new_at ?_); (simp; done)) | with_reducible refine old_at ?_)); done)); have L48 := Aside0.mk l48; clear l48) | ((refine have l48 : w4.heap[w2.heap.size]? = some (.cells #[.int .i64 y.f0, .string y.f1] 71 (0, 0)) := grown_at hg4 ?q ?r; ?_); (case q => simp [Value.ownBlock]); (case r => ((repeat (first | with_reducible exact L48.out | with_reducible refine drew_at ?_ | ((with_reducible refine new_at ?_); (simp; done)) | with_reducible refine old_at ?_)); done)); have L48 := Aside0.mk l48; clear l48) | skip); clear ho4 hb4 hg4) | ((with_reducible refine gate_step 112 rfl ?_); (refine Kd.R_append_rows_step k71 (w0 := w2) w2.heap.size ?hW (.tmp 105) (.tmp 111) 66 71 (.agg #[(.int .i64 0), (.string ⟨#[]⟩)]) 24 rfl Try.underlying66 info71 rfl (by decide) (by omega) v4 (xs.map cv) [⟨y.f0, y.f1⟩] (some ⟨w4.heap.size, 0, none⟩) 1 1 (fun _ => True) (fun _ => False) ?e1 ?e2 ?hO (lit_reads y.f0 y.f1 ?h1) (fun x cs h => k71_KM x cs h) (fun _ h => h.elim) (fun _ _ => trivial) ?hB ?hS ?hL ?_); (case hW => simp [Region.wanted]); (case e1 => simp [Act.eval]); (case e2 => (simp [Act.eval]; done)); (case hO => exact R71_below O48.out (by ((repeat (first | exact Below.refl _ _ | refine below_drew1 ?_ | refine bel_alloc ?_ _)); done))); (case h1 => ((repeat (first | with_reducible exact L48.out | with_reducible refine drew_at ?_ | ((with_reducible refine new_at ?_); (simp; done)) | with_reducible refine old_at ?_)); done)); (case hL => simp; omega); (case hB => first | ((repeat (first | exact Below.refl _ _ | refine below_drew1 ?_ | refine bel_alloc ?_ _)); done) | ((repeat (first | exact B48.out | refine below_drew1 ?_ | refine bel_alloc ?_ _)); done)); (case hS => exact bel_size (by first | ((repeat (first | exact Below.refl _ _ | refine below_drew1 ?_ | refine bel_alloc ?_ _)); done) | ((repeat (first | exact B48.out | refine below_drew1 ?_ | refine bel_alloc ?_ _)); done))); intro v5 w5 ho5 hb5 _ _; have O55 := Aside0.mk ho5; have B55 := Aside0.mk hb5; clear ho5 hb5) | ((with_reducible refine gate_step 112 rfl ?_); (refine Kd.R_append_rows_step k71 (w0 := w2) w2.heap.size ?hW (.tmp 105) (.tmp 111) 66 71 (.agg #[(.int .i64 0), (.string ⟨#[]⟩)]) 24 rfl Try.underlying66 info71 rfl (by decide) (by omega) v4 (xs.map cv) [⟨y.f0, y.f1⟩] (some ⟨w2.heap.size, 0, none⟩) 1 1 (fun _ => True) (fun _ => False) ?e1 ?e2 ?hO (lit_reads y.f0 y.f1 ?h1) (fun x cs h => k71_KM x cs h) (fun _ h => h.elim) (fun _ _ => trivial) ?hB ?hS ?hL ?_); (case hW => simp [Region.wanted]); (case e1 => simp [Act.eval]); (case e2 => (simp [Act.eval]; done)); (case hO => exact R71_below O48.out (by ((repeat (first | exact Below.refl _ _ | refine below_drew1 ?_ | refine bel_alloc ?_ _)); done))); (case h1 => ((repeat (first | with_reducible exact L48.out | with_reducible refine drew_at ?_ | ((with_reducible refine new_at ?_); (simp; done)) | with_reducible refine old_at ?_)); done)); (case hL => simp; omega); (case hB => first | ((repeat (first | exact Below.refl _ _ | refine below_drew1 ?_ | refine bel_alloc ?_ _)); done) | ((repeat (first | exact B48.out | refine below_drew1 ?_ | refine bel_alloc ?_ _)); done)); (case hS => exact bel_size (by first | ((repeat (first | exact Below.refl _ _ | refine below_drew1 ?_ | refine bel_alloc ?_ _)); done) | ((repeat (first | exact B48.out | refine below_drew1 ?_ | refine bel_alloc ?_ _)); done))); intro v5 w5 ho5 hb5 _ _; have O55 := Aside0.mk ho5; have B55 := Aside0.mk hb5; clear ho5 hb5) | ((with_reducible refine gate_step 112 rfl ?_); (refine Kd.R_append_rows_step k71 (w0 := w2) w2.heap.size ?hW (.tmp 105) (.tmp 111) 66 71 (.agg #[(.int .i64 0), (.string ⟨#[]⟩)]) 24 rfl Try.underlying66 info71 rfl (by decide) (by omega) v4 (xs.map cv) [⟨y.f0, y.f1⟩] (some ⟨w2.heap.size + 1, 0, none⟩) 1 1 (fun _ => True) (fun _ => False) ?e1 ?e2 ?hO (lit_reads y.f0 y.f1 ?h1) (fun x cs h => k71_KM x cs h) (fun _ h => h.elim) (fun _ _ => trivial) ?hB ?hS ?hL ?_); (case hW => simp [Region.wanted]); (case e1 => simp [Act.eval]); (case e2 => (simp [Act.eval]; done)); (case hO => exact R71_below O48.out (by ((repeat (first | exact Below.refl _ _ | refine below_drew1 ?_ | refine bel_alloc ?_ _)); done))); (case h1 => ((repeat (first | with_reducible exact L48.out | with_reducible refine drew_at ?_ | ((with_reducible refine new_at ?_); (simp; done)) | with_reducible refine old_at ?_)); done)); (case hL => simp; omega); (case hB => first | ((repeat (first | exact Below.refl _ _ | refine below_drew1 ?_ | refine bel_alloc ?_ _)); done) | ((repeat (first | exact B48.out | refine below_drew1 ?_ | refine bel_alloc ?_ _)); done)); (case hS => exact bel_size (by first | ((repeat (first | exact Below.refl _ _ | refine below_drew1 ?_ | refine bel_alloc ?_ _)); done) | ((repeat (first | exact B48.out | refine below_drew1 ?_ | refine bel_alloc ?_ _)); done))); intro v5 w5 ho5 hb5 _ _; have O55 := Aside0.mk ho5; have B55 := Aside0.mk hb5; clear ho5 hb5) | fail "no arm")
            all_goals
              clear hi0 hi1 hg1 hg2

              have TF0 := TT.out.fresh B55.out (q' := v5) (ys' := xs ++ [y]) (by rw [List.map_append]; exact O55.out)
              have hR5 := TF0.2.1
              obtain ⟨A5, c5, rfl⟩ := R71_len hR5
              have hlen : (xs ++ [y]).length ≤ k + 1 := by simp; omega
              clear hR5 O55 B55 TT HC2
              generalize xs ++ [y] = zs at *
              clear cX0 cX1 cX2 lX

              obtain ⟨d0, d1, d2, dX⟩ := TF0.cells
              have TF := Aside0.mk TF0
              clear TF0

              go_wp2_with fail
              refine (all_t TF.out (by omega)).mono ?_; rintro e wa ⟨A9, c9, rfl, hr9, T9⟩
              have C9 := Aside0.mk (alike_t T9 hr9 (by omega))
              clear TF T9 hr9
              go_wp2_with fail
              refine C9.out.mono ?_; rintro e wb ⟨rfl, hT⟩
              have LT := Aside0.mk hT.done
              clear C9 hT
              go_wp2_with fail
              go_roundw
              case rel => exact ⟨k + 1, _, _, _, by omega, by go_num, rfl, hlen, LT.out⟩
              case measure => simp [intOf]; omega
        · have hnot := th
          by_cases h1 : 0 ≤ N
          · have h2 : ¬ N < (xs.length : Int) := fun h => th ⟨h1, h⟩
            clear th
            as_aux_lemma =>
              go_wp2_with fail
              rw [HX.out] at T0
              refine (twice_f T0.out.1 N hnot).mono ?_; rintro e w2 hst

              obtain ⟨rfl, T2⟩ := T0.out.step hst
              obtain ⟨cX0, cX1, cX2, lX⟩ := T2.cells
              have TT := Aside0.mk T2
              clear hst T2 T0

              go_wp2_with fail
              refine (all_t TT.out hz).mono ?_; rintro e wa ⟨A9, c9, rfl, hr9, T9⟩
              have C9 := Aside0.mk (alike_t T9 hr9 hz)
              clear T9 hr9
              go_wp2_with fail
              refine C9.out.mono ?_; rintro e wb ⟨rfl, hT⟩
              have LT := Aside0.mk hT.done
              clear C9 hT
              go_wp2_with fail
              go_roundw
              case rel => exact ⟨k + 1, _, _, _, by omega, by go_num, rfl, (by omega), LT.out⟩
              case measure => simp [intOf]; omega
          · clear th
            as_aux_lemma =>
              go_wp2_with fail
              rw [HX.out] at T0
              refine (twice_f T0.out.1 N hnot).mono ?_; rintro e w2 hst

              obtain ⟨rfl, T2⟩ := T0.out.step hst
              obtain ⟨cX0, cX1, cX2, lX⟩ := T2.cells
              have TT := Aside0.mk T2
              clear hst T2 T0

              go_wp2_with fail
              refine (all_t TT.out hz).mono ?_; rintro e wa ⟨A9, c9, rfl, hr9, T9⟩
              have C9 := Aside0.mk (alike_t T9 hr9 hz)
              clear T9 hr9
              go_wp2_with fail
              refine C9.out.mono ?_; rintro e wb ⟨rfl, hT⟩
              have LT := Aside0.mk hT.done
              clear C9 hT
              go_wp2_with fail
              go_roundw
              case rel => exact ⟨k + 1, _, _, _, by omega, by go_num, rfl, (by omega), LT.out⟩
              case measure => simp [intOf]; omega
      have b3 : (kind == 3) = false := by simpa using c3
      by_cases c4 : kind = 4
      · subst c4
        by_cases th : 0 ≤ N ∧ N < (xs.length : Int)
        · obtain ⟨h1, h2⟩ := th
          have hN : ((N.toNat : Nat) : Int) = N := Int.toNat_of_nonneg h1
          have hi : N.toNat < xs.length := by omega
          as_aux_lemma =>
            have CD := Aside0.mk (turn_s T0.out.1 N.toNat t hi)
            rw [hN, HX.out] at CD
            rw [HX.out] at T0
            go_wp2_with fail
            refine CD.out.mono ?_; rintro e w2 hst
            clear CD

            obtain ⟨rfl, T2⟩ := T0.out.step hst
            obtain ⟨cX0, cX1, cX2, lX⟩ := T2.cells
            have TT := Aside0.mk T2
            clear hst T2 T0

            have HC2 := Aside0.mk (Kd.R_reads' TT.out.2.1).2.2
            rw [List.length_map] at HC2
            obtain ⟨g, rfl, hg1, hg2, hgc, hgm, hi0, hi1, _, _⟩ := item_cv TT.out.2.1 N.toNat hi
            clear hi0 hi1
            go_wp2_with (first | ((with_reducible refine gate_dst (N := 125) rfl ?_); (refine Kd.R_append_rows k71 (w0 := w2) w2.heap.size rfl (.tmp 123) (.tmp 124) 66 71 (.agg #[(.int .i64 0), (.string ⟨#[]⟩)]) 24 rfl Try.underlying66 info71 rfl (by decide) (by omega) (.slice (some ⟨w2.heap.size, 0, none⟩) 0 0) [] (xs.map cv) (some ⟨g, 0, none⟩) xs.length cq (fun _ => True) (fun _ => False) rfl rfl (R71_empty ?h1 ?h2) (C71_below HC2.out ?hR) (fun x cs h => k71_KM x cs h) (fun _ h => h.elim) (fun _ _ => trivial) ?hB ?hS ?hL ?_); (case h1 => exact heap_alloc_new _ _); (case h2 => exact Nat.le_refl _); (case hR => exact bel_alloc (Below.refl _ _) _); (case hB => exact bel_alloc (Below.refl _ _) _); (case hS => exact bel_size (bel_alloc (Below.refl _ _) _)); (case hL => simp; omega); intro v4 w4 ho4 hb4 _ _; obtain ⟨A4, c4, e4⟩ := R71_len (show Kd.R k71 71 w4 w2.heap.size (fun _ => True) v4 (xs.map cv) from ho4); subst e4; have q4 := item_cv (show Kd.R k71 71 w4 w2.heap.size (fun _ => True) _ (xs.map cv) from ho4) N.toNat hi; obtain ⟨g4, e4, m1, m2, mc, mm, mi0, mi1, mf0, mf1⟩ := q4; subst e4; have x0 := (hb4.cell (p := ⟨wr.heap.size, 0, none⟩) lX).trans cX0; have x1 := (hb4.cell (p := ⟨wr.heap.size, 1, none⟩) lX).trans cX1; have x2 := (hb4.cell (p := ⟨wr.heap.size, 2, none⟩) lX).trans cX2; have O48 := Aside0.mk ho4; have B48 := Aside0.mk hb4; clear ho4 hb4))
            have hR5 := seg_cv (show Kd.R k71 71 w4 w2.heap.size (fun _ => True) _ (xs.map cv) from O48.out) N.toNat hi t rfl
            have TF0 := TT.out.fresh (B48.out.setCell m1 _) hR5
            obtain ⟨zs, hzs⟩ : ∃ zs, zs = xs.set N.toNat ⟨(xs.getD N.toNat z72).f0, t⟩ := ⟨_, rfl⟩
            rw [← hzs] at TF0
            have hl5 : xs.length = zs.length := by rw [hzs, List.length_set]
            clear hR5 hzs O48 B48 TT HC2
            rw [hl5] at TF0 ⊢
            have hlen : zs.length ≤ k + 1 := by omega
            generalize w4.setCell ⟨g4, N.toNat * 2 + 1, none⟩ (.string t) = w5 at *
            clear cX0 cX1 cX2 lX x0 x1 x2 mi0 mi1 mf0 mf1
            have TF := Aside0.mk TF0
            clear TF0
            refine (all_t TF.out (by omega)).mono ?_; rintro e wa ⟨A9, c9, rfl, hr9, T9⟩
            have C9 := Aside0.mk (alike_t T9 hr9 (by omega))
            clear TF T9 hr9
            go_wp2_with fail
            refine C9.out.mono ?_; rintro e wb ⟨rfl, hT⟩
            have LT := Aside0.mk hT.done
            clear C9 hT
            go_wp2_with fail
            go_roundw
            case rel => exact ⟨k + 1, _, _, _, by omega, by go_num, rfl, hlen, LT.out⟩
            case measure => simp [intOf]; omega
        · have hnot := th
          by_cases h1 : 0 ≤ N
          · have h2 : ¬ N < (xs.length : Int) := fun h => th ⟨h1, h⟩
            clear th
            as_aux_lemma =>
              go_wp2_with fail
              rw [HX.out] at T0
              refine (turn_f T0.out.1 N t hnot).mono ?_; rintro e w2 hst

              obtain ⟨rfl, T2⟩ := T0.out.step hst
              obtain ⟨cX0, cX1, cX2, lX⟩ := T2.cells
              have TT := Aside0.mk T2
              clear hst T2 T0

              go_wp2_with fail
              refine (all_t TT.out hz).mono ?_; rintro e wa ⟨A9, c9, rfl, hr9, T9⟩
              have C9 := Aside0.mk (alike_t T9 hr9 hz)
              clear T9 hr9
              go_wp2_with fail
              refine C9.out.mono ?_; rintro e wb ⟨rfl, hT⟩
              have LT := Aside0.mk hT.done
              clear C9 hT
              go_wp2_with fail
              go_roundw
              case rel => exact ⟨k + 1, _, _, _, by omega, by go_num, rfl, (by omega), LT.out⟩
              case measure => simp [intOf]; omega
          · clear th
            as_aux_lemma =>
              go_wp2_with fail
              rw [HX.out] at T0
              refine (turn_f T0.out.1 N t hnot).mono ?_; rintro e w2 hst

              obtain ⟨rfl, T2⟩ := T0.out.step hst
              obtain ⟨cX0, cX1, cX2, lX⟩ := T2.cells
              have TT := Aside0.mk T2
              clear hst T2 T0

              go_wp2_with fail
              refine (all_t TT.out hz).mono ?_; rintro e wa ⟨A9, c9, rfl, hr9, T9⟩
              have C9 := Aside0.mk (alike_t T9 hr9 hz)
              clear T9 hr9
              go_wp2_with fail
              refine C9.out.mono ?_; rintro e wb ⟨rfl, hT⟩
              have LT := Aside0.mk hT.done
              clear C9 hT
              go_wp2_with fail
              go_roundw
              case rel => exact ⟨k + 1, _, _, _, by omega, by go_num, rfl, (by omega), LT.out⟩
              case measure => simp [intOf]; omega
      have b4 : (kind == 4) = false := by simpa using c4
      by_cases c5 : kind = 5
      · subst c5
        by_cases th : 0 ≤ N ∧ N < (xs.length : Int)
        · obtain ⟨h1, h2⟩ := th
          have hN : ((N.toNat : Nat) : Int) = N := Int.toNat_of_nonneg h1
          have hi : N.toNat < xs.length := by omega
          as_aux_lemma =>
            go_wp2_with fail
            rw [HX.out] at T0
            obtain ⟨W0, hW0⟩ : ∃ W0, W0 = (wr.alloc (.cells #[.int .i64 5, .int .i64 N, .string t] 68)) := ⟨_, rfl⟩
            rw [← hW0] at T0 ⊢
            obtain ⟨cX0, cX1, cX2, lX⟩ := T0.out.cells
            refine (all_b T0.out hz).mono ?_; rintro e w2 ⟨A9, c9, rfl, hr9, hb9⟩
            have CP := Aside0.mk (show Copy W0 w2 A9 c9 xs.length from ⟨hb9, xs, rfl, hr9⟩)
            clear hr9 hb9 hW0
            go_wp2_with fail
            go_loopw [12] (fun j w3 => ∃ jj : Nat, j = .int .i64 jj ∧ jj ≤ xs.length ∧ Copy W0 w3 A9 c9 xs.length) (fun j _ => xs.length - (intOf j).toNat)
            case atStart => exact ⟨0, rfl, Nat.zero_le _, CP.out⟩
            case round =>
              obtain ⟨jj, rfl, hj, hcp⟩ := hrel
              by_cases hjl : jj < xs.length
              · have bj : (jj : Int) < (xs.length : Int) := by omega
                obtain ⟨g9, f0, f1, rfl, hg9, hs9, hc9, hm9, y0, y1, z0, z1⟩ := hcp.at_ jj hjl
                have CP3 := Aside0.mk hcp
                clear hcp
                go_wp2_with fail
                exact ⟨⟨jj + 1, by go_num, by omega, (CP3.out.set0 hg9 jj hjl 0).set1 hg9 jj hjl _⟩, by simp [intOf]; omega⟩
              · have TB := T0.out.below hcp.1
                clear hcp CP T0 cX0 cX1 cX2 lX
                obtain ⟨cX0, cX1, cX2, lX⟩ := TB.cells
                have TT := Aside0.mk TB
                clear TB
                go_wp2_with fail
                refine (all_t TT.out hz).mono ?_; rintro e wa ⟨A9, c9, rfl, hr9, T9⟩
                have C9 := Aside0.mk (alike_t T9 hr9 hz)
                clear T9 hr9
                go_wp2_with fail
                refine C9.out.mono ?_; rintro e wb ⟨rfl, hT⟩
                have LT := Aside0.mk hT.done
                clear C9 hT
                go_wp2_with fail
                go_roundw
                case rel => exact ⟨k + 1, _, _, _, by omega, by go_num, rfl, (by omega), LT.out⟩
                case measure => simp [intOf]; omega
        · have hnot := th
          by_cases h1 : 0 ≤ N
          · have h2 : ¬ N < (xs.length : Int) := fun h => th ⟨h1, h⟩
            clear th
            as_aux_lemma =>
              go_wp2_with fail
              rw [HX.out] at T0
              obtain ⟨W0, hW0⟩ : ∃ W0, W0 = (wr.alloc (.cells #[.int .i64 5, .int .i64 N, .string t] 68)) := ⟨_, rfl⟩
              rw [← hW0] at T0 ⊢
              obtain ⟨cX0, cX1, cX2, lX⟩ := T0.out.cells
              refine (all_b T0.out hz).mono ?_; rintro e w2 ⟨A9, c9, rfl, hr9, hb9⟩
              have CP := Aside0.mk (show Copy W0 w2 A9 c9 xs.length from ⟨hb9, xs, rfl, hr9⟩)
              clear hr9 hb9 hW0
              go_wp2_with fail
              go_loopw [12] (fun j w3 => ∃ jj : Nat, j = .int .i64 jj ∧ jj ≤ xs.length ∧ Copy W0 w3 A9 c9 xs.length) (fun j _ => xs.length - (intOf j).toNat)
              case atStart => exact ⟨0, rfl, Nat.zero_le _, CP.out⟩
              case round =>
                obtain ⟨jj, rfl, hj, hcp⟩ := hrel
                by_cases hjl : jj < xs.length
                · have bj : (jj : Int) < (xs.length : Int) := by omega
                  obtain ⟨g9, f0, f1, rfl, hg9, hs9, hc9, hm9, y0, y1, z0, z1⟩ := hcp.at_ jj hjl
                  have CP3 := Aside0.mk hcp
                  clear hcp
                  go_wp2_with fail
                  exact ⟨⟨jj + 1, by go_num, by omega, (CP3.out.set0 hg9 jj hjl 0).set1 hg9 jj hjl _⟩, by simp [intOf]; omega⟩
                · have TB := T0.out.below hcp.1
                  clear hcp CP T0 cX0 cX1 cX2 lX
                  obtain ⟨cX0, cX1, cX2, lX⟩ := TB.cells
                  have TT := Aside0.mk TB
                  clear TB
                  go_wp2_with fail
                  refine (all_t TT.out hz).mono ?_; rintro e wa ⟨A9, c9, rfl, hr9, T9⟩
                  have C9 := Aside0.mk (alike_t T9 hr9 hz)
                  clear T9 hr9
                  go_wp2_with fail
                  refine C9.out.mono ?_; rintro e wb ⟨rfl, hT⟩
                  have LT := Aside0.mk hT.done
                  clear C9 hT
                  go_wp2_with fail
                  go_roundw
                  case rel => exact ⟨k + 1, _, _, _, by omega, by go_num, rfl, (by omega), LT.out⟩
                  case measure => simp [intOf]; omega
          · clear th
            as_aux_lemma =>
              go_wp2_with fail
              rw [HX.out] at T0
              obtain ⟨W0, hW0⟩ : ∃ W0, W0 = (wr.alloc (.cells #[.int .i64 5, .int .i64 N, .string t] 68)) := ⟨_, rfl⟩
              rw [← hW0] at T0 ⊢
              obtain ⟨cX0, cX1, cX2, lX⟩ := T0.out.cells
              refine (all_b T0.out hz).mono ?_; rintro e w2 ⟨A9, c9, rfl, hr9, hb9⟩
              have CP := Aside0.mk (show Copy W0 w2 A9 c9 xs.length from ⟨hb9, xs, rfl, hr9⟩)
              clear hr9 hb9 hW0
              go_wp2_with fail
              go_loopw [12] (fun j w3 => ∃ jj : Nat, j = .int .i64 jj ∧ jj ≤ xs.length ∧ Copy W0 w3 A9 c9 xs.length) (fun j _ => xs.length - (intOf j).toNat)
              case atStart => exact ⟨0, rfl, Nat.zero_le _, CP.out⟩
              case round =>
                obtain ⟨jj, rfl, hj, hcp⟩ := hrel
                by_cases hjl : jj < xs.length
                · have bj : (jj : Int) < (xs.length : Int) := by omega
                  obtain ⟨g9, f0, f1, rfl, hg9, hs9, hc9, hm9, y0, y1, z0, z1⟩ := hcp.at_ jj hjl
                  have CP3 := Aside0.mk hcp
                  clear hcp
                  go_wp2_with fail
                  exact ⟨⟨jj + 1, by go_num, by omega, (CP3.out.set0 hg9 jj hjl 0).set1 hg9 jj hjl _⟩, by simp [intOf]; omega⟩
                · have TB := T0.out.below hcp.1
                  clear hcp CP T0 cX0 cX1 cX2 lX
                  obtain ⟨cX0, cX1, cX2, lX⟩ := TB.cells
                  have TT := Aside0.mk TB
                  clear TB
                  go_wp2_with fail
                  refine (all_t TT.out hz).mono ?_; rintro e wa ⟨A9, c9, rfl, hr9, T9⟩
                  have C9 := Aside0.mk (alike_t T9 hr9 hz)
                  clear T9 hr9
                  go_wp2_with fail
                  refine C9.out.mono ?_; rintro e wb ⟨rfl, hT⟩
                  have LT := Aside0.mk hT.done
                  clear C9 hT
                  go_wp2_with fail
                  go_roundw
                  case rel => exact ⟨k + 1, _, _, _, by omega, by go_num, rfl, (by omega), LT.out⟩
                  case measure => simp [intOf]; omega
      have b5 : (kind == 5) = false := by simpa using c5

      by_cases th : 0 ≤ N ∧ N < (xs.length : Int)
      · obtain ⟨h1, h2⟩ := th
        have hN : ((N.toNat : Nat) : Int) = N := Int.toNat_of_nonneg h1
        have hi : N.toNat < xs.length := by omega
        as_aux_lemma =>
          rw [HX.out] at T0
          go_wp2_with fail
          refine (all_t T0.out hz).mono ?_; rintro e wa ⟨A9, c9, rfl, hr9, T9⟩
          have C9 := Aside0.mk (alike_t T9 hr9 (by omega))
          clear T9 hr9
          go_wp2_with fail
          refine C9.out.mono ?_; rintro e wb ⟨rfl, hT⟩
          have LT := Aside0.mk hT.done
          clear C9 hT
          go_wp2_with fail
          go_roundw
          case rel => exact ⟨k + 1, _, _, _, by omega, by go_num, rfl, (by omega), LT.out⟩
          case measure => simp [intOf]; omega
      · have hnot := th
        by_cases h1 : 0 ≤ N
        · have h2 : ¬ N < (xs.length : Int) := fun h => th ⟨h1, h⟩
          clear th
          as_aux_lemma =>
            rw [HX.out] at T0
            go_wp2_with fail
            refine (all_t T0.out hz).mono ?_; rintro e wa ⟨A9, c9, rfl, hr9, T9⟩
            have C9 := Aside0.mk (alike_t T9 hr9 (by omega))
            clear T9 hr9
            go_wp2_with fail
            refine C9.out.mono ?_; rintro e wb ⟨rfl, hT⟩
            have LT := Aside0.mk hT.done
            clear C9 hT
            go_wp2_with fail
            go_roundw
            case rel => exact ⟨k + 1, _, _, _, by omega, by go_num, rfl, (by omega), LT.out⟩
            case measure => simp [intOf]; omega
        · clear th
          as_aux_lemma =>
            rw [HX.out] at T0
            go_wp2_with fail
            refine (all_t T0.out hz).mono ?_; rintro e wa ⟨A9, c9, rfl, hr9, T9⟩
            have C9 := Aside0.mk (alike_t T9 hr9 (by omega))
            clear T9 hr9
            go_wp2_with fail
            refine C9.out.mono ?_; rintro e wb ⟨rfl, hT⟩
            have LT := Aside0.mk hT.done
            clear C9 hT
            go_wp2_with fail
            go_roundw
            case rel => exact ⟨k + 1, _, _, _, by omega, by go_num, rfl, (by omega), LT.out⟩
            case measure => simp [intOf]; omega
    · obtain rfl : k = l.length := by omega
      have LT := Aside0.mk hs
      clear hs hlt hk
      go_wp2_with fail
      refine (wakes_any _).mono ?_; rintro e w8 ⟨rfl, hb⟩
      go_wp2_with fail
      go_ret
      exact ⟨rfl, HO.out.trans ((LT.out.1.old.mono (Nat.le_of_eq HZ.out)).trans (hb.mono (by have := LT.out.1.size.1; have := HZ.out; omega)))⟩

end Go.Proofs.Ytbaljleimiflmaa.Net

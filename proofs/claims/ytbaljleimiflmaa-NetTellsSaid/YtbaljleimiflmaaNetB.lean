/-
  A copy of all items; one item cut out of a row. Conditions: the row is there, the item's number lies in it.
-/
import Derived.Test.YtbaljleimiflmaaNetA
namespace Go.Proofs.Ytbaljleimiflmaa.Net
open Go.RowKit Go.Proofs.Ytbaljleimiflmaa.PNetTells Go.Proofs.YtbaljleimiflmaaW.PrintWords Go.Proofs.YtbaljleimiflmaaW.PrintLast

theorem info72 : (Try.prog.info? 72).map (fun i => (i.zero, i.size, i.bytes)) = some (some (.agg #[(.int .i64 0), (.string ⟨#[]⟩)]), 2, 24) := by kernel_rfl
theorem k72_KM {w W : World} {base : Nat} {ok : Nat → Prop} (x : S72) (cs : List Value) (h : k72.K w x cs) : k72.M W base ok x cs := by
  obtain rfl := k72_open h
  exact k72_mkM W base ok x
theorem k72_MK {w W : World} {base : Nat} {ok : Nat → Prop} (x : S72) (cs : List Value) (h : k72.M w base ok x cs) : k72.K W x cs := by
  obtain rfl := k72_openM h
  exact k72_mk W x

def Made (w : World) (xs : List S72) (e : Ending) (w' : World) : Prop := ∃ A c, e = .returned (.slice A xs.length c) ∧ Kd.R k72 72 w' w.heap.size (fun _ => True) (.slice A xs.length c) xs ∧ Below w.heap.size w w'

theorem clone_nil (w : World) : Calls Try.prog 47 #[.slice none 0 0] w (Made w []) := by
  have hq := Lib.run_eql_slice_nil (P := Try.prog) w 63 72 none 0 0 0 0 Try.underlying63
  go_enter Try.func47, Try.ntmps47
  go_wp2
  go_ret
  exact ⟨none, 0, rfl, Kd.R_nil _ _ _ _ _, Below.refl _ _⟩

theorem R_shape {w : World} {B : Nat} {ok : Nat → Prop} {v : Value} {xs : List S72} (h : Kd.R k72 72 w B ok v xs) : ∃ A c, v = .slice A xs.length c := by
  obtain ⟨_, inner, ⟨_, h2⟩, _⟩ := h
  rcases h2 with ⟨rfl, hn⟩ | ⟨g, cap, cur, rfl, _⟩
  · exact ⟨none, 0, by rw [hn]⟩
  · exact ⟨_, _, rfl⟩

theorem clone_some (w : World) (ad : Addr) (c : Nat) (xs : List S72) (hC : Kd.C k72 w (some ad) xs.length xs) (hl : xs.length * 24 ≤ 140737488355328) :
    Calls Try.prog 47 #[.slice (some ad) xs.length c] w (Made w xs) := by
  have hq := Lib.run_eql_slice_nil (P := Try.prog) w 63 72 (some ad) xs.length c 0 0 Try.underlying63
  have HC := Lib.hid hC
  clear hC
  have hu72 := Try.underlying72
  go_enter Try.func47, Try.ntmps47
  go_wp2_with (first | ((with_reducible refine gate_dst (N := 5) rfl ?_); refine Kd.R_lit k72 (w0 := w) w.heap.size 72 ?hg (N := 5) ?hd (xs := ([] : List S72)) (inner := []) (ok := fun _ => True) (okp := fun _ => True) ?hr ?hp (fun _ hk => hk) trivial (Below.refl _ _) (Nat.le_refl _) (by simp) ?_; (case hd => rfl); (case hg => rfl); (case hr => first | (go_simp; done) | (go_simp; rfl)); (case hp => exact (Reps.none _ _)); intro v1 w1 ho1 hb1 _ _; have O1 := Aside0.mk ho1; have B1 := Aside0.mk hb1; clear ho1 hb1) | ((with_reducible refine gate_dst (N := 7) rfl ?_); refine Kd.R_append_rows k72 (Rr := k72.K w1) (w0 := w) w.heap.size rfl (.tmp 5) (.tmp 6) 63 72 (.agg #[(.int .i64 0), (.string ⟨#[]⟩)]) 24 rfl Try.underlying63 info72 rfl (by decide) (by omega) v1 [] xs (some ad) xs.length c (fun _ => True) (fun _ => False) rfl rfl ?aO ?aR (fun x cs h => k72_KM x cs h) (fun _ h => h.elim) (fun _ _ => trivial) ?aB ?aS ?aL ?_; (case aO => exact O1.out); (case aR => exact Kd.C_below HC.out B1.out); (case aB => exact B1.out); (case aS => exact B1.out.size); (case aL => simp only [List.length_nil, Nat.zero_add]; exact hl); intro v2 w2 ho2 hb2 _ _; have O2 := Aside0.mk ho2; have B2 := Aside0.mk hb2; clear ho2 hb2))
  go_ret
  obtain ⟨A', c', e⟩ := R_shape O2.out
  have ho := O2.out
  rw [List.nil_append] at ho e
  subst e
  exact ⟨A', c', rfl, ho, B2.out⟩

def AllTo (B : Nat) (w0 w : World) (xs : List S72) (e : Ending) (w' : World) : Prop := ∃ A c, e = .returned (.slice A xs.length c) ∧ Kd.R k72 72 w' w.heap.size (fun _ => True) (.slice A xs.length c) xs ∧ Below w.heap.size w w' ∧ Below B w0 w'

theorem all_nil (w : World) : Calls Try.prog 41 #[.pointer none] w fun e w' => e = .returned (.slice none 0 0) ∧ w = w' := by
  go_enter Try.func41, Try.ntmps41
  go_wp2
  go_ret
  exact ⟨rfl, rfl⟩

theorem all_any (w : World) (B b : Nat) (A : Option Addr) (c : Nat) (xs : List S72) (h : NetAt w B b A c xs) (hl : xs.length * 24 ≤ 140737488355328) : Calls Try.prog 41 #[.pointer (some ⟨b, 0, none⟩)] w (Made w xs) := by
  have h0 := blk_cell h.1 0
  simp at h0
  have hC : Kd.C k72 w A xs.length xs := (Kd.R_reads' h.2).2.2
  have hown := h.2
  clear h
  have HC := Lib.hid hC
  clear hC
  cases A with
  | none =>
    have e : xs = [] ∧ c = 0 := by
      obtain ⟨_, inner, ⟨_, h2⟩, _⟩ := hown
      rcases h2 with ⟨h3, h4⟩ | ⟨g, cap, cur, h3, _⟩
      · injection h3 with _ h5 h6
        exact ⟨List.length_eq_zero_iff.1 h4, h6⟩
      · injection h3 with h5
        cases h5
    obtain ⟨rfl, rfl⟩ := e
    clear hown HC
    go_enter Try.func41, Try.ntmps41
    go_wp2_with fail
    refine (clone_nil _).mono ?_
    rintro e w' ⟨A, c, rfl, hr⟩
    have HR := Aside0.mk hr
    clear hr
    go_wp2_with fail
    go_ret
    exact ⟨A, c, rfl, HR.out⟩
  | some ad =>
    clear hown
    go_enter Try.func41, Try.ntmps41
    go_wp2_with fail
    refine (clone_some _ ad c xs HC.out hl).mono ?_
    rintro e w' ⟨A, c, rfl, hr⟩
    have HR := Aside0.mk hr
    clear hr
    go_wp2_with fail
    go_ret
    exact ⟨A, c, rfl, HR.out⟩

end Go.Proofs.Ytbaljleimiflmaa.Net

/-
  Put, Take, Drop, Twice, Turn over a net that is one block of memory with a slice of its own. Conditions: the net is there; what is put has room in memory.
-/
import Derived.Test.YtbaljleimiflmaaNetC
namespace Go.Proofs.Ytbaljleimiflmaa.Net
open Go.RowKit Go.Proofs.Ytbaljleimiflmaa.PNetTells Go.Proofs.YtbaljleimiflmaaW.PrintWords Go.Proofs.YtbaljleimiflmaaW.PrintLast

section
variable {w w1 : World} {B : Nat} {v : Value} {xs : List S72}
theorem R72_own (h : Kd.R k72 72 w B (fun _ => True) v xs) : ∃ inner, w.ownsRow B 72 2 v xs.length inner := by
  obtain ⟨_, inner, ho, _⟩ := h
  exact ⟨inner, ho⟩
theorem R72_far (h : Kd.R k72 72 w B (fun _ => True) v xs) {p : Addr} (hp : some p.block ≠ v.ownBlock) (u : Value) : Kd.R k72 72 (w.setCell p u) B (fun _ => True) v xs := by
  obtain ⟨h0, inner, ho, hr⟩ := h
  exact ⟨h0, inner, own_setCell ho hp u, hr.imp_ (fun p q hq => k72_KM (w := w) p q (k72_MK p q hq))⟩
theorem R72_move (h : Kd.R k72 72 w B (fun _ => True) v xs) (hm : ∀ k, v.ownBlock = some k → w1.heap[k]? = w.heap[k]?) : Kd.R k72 72 w1 B (fun _ => True) v xs := by
  obtain ⟨h0, inner, ho, hr⟩ := h
  exact ⟨h0, inner, own_move ho hm, hr.imp_ (fun p q hq => k72_KM (w := w) p q (k72_MK p q hq))⟩
theorem R72_ne (h : Kd.R k72 72 w B (fun _ => True) v xs) {g t : Nat} {cs : Array Value} (hb : w.heap[g]? = some (.cells cs t (0, 0))) (hne : 72 ≠ t) : some g ≠ v.ownBlock := by
  obtain ⟨inner, ho⟩ := R72_own h
  exact own_ne ho hb hne
end

theorem item_at {w : World} {B : Nat} {A : Option Addr} {c : Nat} {xs : List S72} (h : Kd.R k72 72 w B (fun _ => True) (.slice A xs.length c) xs) (i : Nat) (hi : i < xs.length) :
    ∃ g, A = some ⟨g, 0, none⟩ ∧ B ≤ g ∧ g < w.heap.size ∧ xs.length ≤ c ∧ c ≤ 9223372036854775807 ∧ w.cell? ⟨g, i * 2, none⟩ = some (.int .i64 (xs.getD i z72).f0) ∧ w.cell? ⟨g, i * 2 + 1, none⟩ = some (.string (xs.getD i z72).f1) ∧
      w.frozen? ⟨g, i * 2, none⟩ = false ∧ w.frozen? ⟨g, i * 2 + 1, none⟩ = false := by
  have hC := (Kd.R_reads' h).2.2
  obtain ⟨_, inner, ⟨_, h2⟩, _⟩ := h
  rcases h2 with ⟨h3, h4⟩ | ⟨g, cap, cur, h3, hg, hh, hnc, hcm, _, _⟩
  · omega
  · injection h3 with e1 e2 e3
    subst e1
    subst e3
    obtain ⟨ad, e, h5, h6⟩ := at_T72 hC i (by omega) (by omega)
    injection e with e
    subst e
    have ea : (⟨g, 0, none⟩ : Addr).add ((i : Int).toNat * 2) = ⟨g, i * 2, none⟩ := by
      rw [Int.toNat_natCast]
      unfold Addr.add
      split
      · rename_i h; rw [h]
      · simp
    rw [ea] at h5 h6
    refine ⟨g, rfl, hg, blk_lt hh, hnc, by simpa [maxLen] using hcm, ?_, ?_, blk_frozen hh _, blk_frozen hh _⟩
    · simpa [rd_T72] using h5
    · simpa [rd_T72] using h6

/-- What a call leaves of the net at b; r: the row before. -/
def NetTo (B b : Nat) (w0 w : World) (r : Option Nat) (v : Value) (xs : List S72) (e : Ending) (w' : World) : Prop :=
  e = .returned v ∧ ∃ A c, NetAt w' B b A c xs ∧ Below B w0 w' ∧ KeepBut w w' b r ∧ ((Value.slice A xs.length c).ownBlock = r ∨ ∃ g, (Value.slice A xs.length c).ownBlock = some g ∧ w.heap.size ≤ g)

theorem net_end {w0 w w1 : World} {B b : Nat} {r : Option Nat} {v v0 : Value} {A1 : Option Addr} {c1 n : Nat} {ys : List S72} (O1 : Kd.R k72 72 w1 B (fun _ => True) (.slice A1 ys.length c1) ys) (B1 : Below B w0 w1) (K1 : w1.heap[b]? = some (.cells #[v0] 65 (0, 0)))
    (hk : KeepBut w w1 b r) (hb : B ≤ b) (hat : (Value.slice A1 ys.length c1).ownBlock = r ∨ ∃ g, (Value.slice A1 ys.length c1).ownBlock = some g ∧ w.heap.size ≤ g) (hn : n = ys.length) :
    NetTo B b w0 w r v ys (.returned v) (w1.setCell ⟨b, 0, none⟩ (.slice A1 n c1)) := by
  subst hn
  have hne := R72_ne O1 K1 (by decide)
  refine ⟨rfl, A1, c1, ⟨?_, R72_far O1 hne _⟩, B1.setCell hb _, hk.set_ 0 _, hat⟩
  have := blk_set K1 0 (.slice A1 ys.length c1)
  simpa using this

section
variable {w0 w : World} {B b : Nat} {A : Option Addr} {c : Nat} {xs : List S72}

theorem put_nil (i : Int) (s : ByteArray) : Calls Try.prog 36 #[.pointer none, .int .i64 i, .string s] w fun e w' => e = .returned (.tuple #[]) ∧ w = w' := by
  go_enter Try.func36, Try.ntmps36
  go_wp2
  go_end0
  exact ⟨rfl, rfl⟩

theorem put_any (h : NetAt w B b A c xs) (HB : Below B w0 w) (hb : B ≤ b) (hl : (xs.length + 1) * 24 ≤ 140737488355328) (i : Int) (s : ByteArray) :
    Calls Try.prog 36 #[.pointer (some ⟨b, 0, none⟩), .int .i64 i, .string s] w (NetTo B b w0 w (Value.slice A xs.length c).ownBlock (.tuple #[]) (xs ++ [⟨i, s⟩])) := by
  have hbs : b < w.heap.size := blk_lt h.1
  have h0 := blk_cell h.1 0
  simp at h0
  have H := Aside0.mk h
  have HBB := Aside0.mk HB
  clear h HB
  have hu72 := Try.underlying72
  go_enter Try.func36, Try.ntmps36
  go_wp2_with (first | ((with_reducible refine gate_dst (N := 17) rfl ?_); refine Kd.R_append k72 (w0 := w0) B rfl (.tmp 12) (.tmp 16) 63 72 (.agg #[(.int .i64 0), (.string ⟨#[]⟩)]) 24 rfl Try.underlying63 info72 rfl (by decide) (by omega) (.slice A xs.length c) xs ⟨i, s⟩ [.int .i64 i, .string s] (fun _ => True) (fun _ => False) rfl rfl ?aP (fun _ hk => hk.elim) ?aF ?aO ?aB ?aS ?aL ?_; (case aP => exact k72_mkM _ _ _ _); (case aF => exact (fun _ _ => trivial)); (case aO => exact H.out.2); (case aB => exact HBB.out); (case aS => omega); (case aL => exact hl); intro v1 w1 ho1 hb1 hg1 hat1; obtain ⟨A1, c1, hv1⟩ := R_shape ho1; rw [hv1] at ho1 hat1 ⊢; clear hv1; have O1 := Aside0.mk ho1; have B1 := Aside0.mk hb1; have G1 := Aside0.mk hg1; have AT1 := Aside0.mk hat1; clear ho1 hb1 hg1 hat1; have hk1 := blk_grown H.out.1 G1.out (R72_ne H.out.2 H.out.1 (by decide)); have hc1 := blk_cell hk1 0; have hf1 := blk_frozen hk1 0; have K1 := Aside0.mk hk1; clear hk1; simp at hc1))
  go_end0
  have hne := R72_ne O1.out K1.out (by decide)
  refine ⟨rfl, A1, c1, ⟨?_, R72_far O1.out hne _⟩, B1.out.setCell hb _, (KeepBut.of_grown G1.out b).set_ 0 _, AT1.out⟩
  have := blk_set K1.out 0 (.slice A1 (xs ++ [(⟨i, s⟩ : S72)]).length c1)
  simpa using this


theorem twice_nil (i : Int) : Calls Try.prog 39 #[.pointer none, .int .i64 i] w fun e w' => e = .returned (.bool false) ∧ w = w' := by
  go_enter Try.func39, Try.ntmps39
  go_wp2_with fail
  refine (there_nil _ i).mono ?_; rintro e w' ⟨rfl, rfl⟩
  go_wp2_with fail
  go_ret
  exact ⟨rfl, rfl⟩

theorem twice_not (h : NetAt w B b A c xs) (i : Int) (hi : ¬ (0 ≤ i ∧ i < (xs.length : Int))) :
    Calls Try.prog 39 #[.pointer (some ⟨b, 0, none⟩), .int .i64 i] w fun e w' => e = .returned (.bool false) ∧ w = w' := by
  go_enter Try.func39, Try.ntmps39
  go_wp2_with fail
  refine (there_any _ b A xs.length c i false h.1 (by simp; omega)).mono ?_; rintro e w' ⟨rfl, rfl⟩
  go_wp2_with fail
  go_ret
  exact ⟨rfl, rfl⟩

set_option maxHeartbeats 1000000 in
theorem twice_any (h : NetAt w B b A c xs) (HB : Below B w0 w) (hb : B ≤ b) (hl : (xs.length + 1) * 24 ≤ 140737488355328) (i : Nat) (hi : i < xs.length) :
    Calls Try.prog 39 #[.pointer (some ⟨b, 0, none⟩), .int .i64 i] w (NetTo B b w0 w (Value.slice A xs.length c).ownBlock (.bool true) (xs ++ [xs.getD i z72])) := by
  have hbs : b < w.heap.size := blk_lt h.1
  have h0 := blk_cell h.1 0
  have f0 := blk_frozen h.1 0
  simp at h0
  obtain ⟨g, rfl, hg1, hg2, hc1, hc2, hx0, hx1, _, _⟩ := item_at h.2 i hi
  generalize xs.getD i z72 = x at *
  have H := Aside0.mk h
  have HBB := Aside0.mk HB
  clear h HB
  have hu72 := Try.underlying72
  have b1 : (i : Int) < (xs.length : Int) := by omega
  go_enter Try.func39, Try.ntmps39
  go_wp2_with fail
  refine (there_any _ b (some ⟨g, 0, none⟩) xs.length c i true H.out.1 (by simp; omega)).mono ?_; rintro e w' ⟨rfl, rfl⟩
  go_wp2_with fail
  go_region_law (refine Kd.R_append_step k72 (w0 := w0) B (by simp [Region.wanted]) (.tmp 13) (.tmp 21) 63 72 (.agg #[(.int .i64 0), (.string ⟨#[]⟩)]) 24 rfl Try.underlying63 info72 rfl (by decide) (by omega) (.slice (some ⟨g, 0, none⟩) xs.length c) xs x [.int .i64 x.f0, .string x.f1] (fun _ => True) (fun _ => False) (by simp [Act.eval]) (by simp [Act.eval]) (k72_mkM _ _ _ _) (fun _ hk => hk.elim) (fun _ _ => trivial) (Kd.R_drew H.out.2) (below_drew1 HBB.out) (by simp; omega) hl ?_; intro v1 w1 ho1 hb1 hg1 hat1; obtain ⟨A1, c1, hv1⟩ := R_shape ho1; rw [hv1] at ho1 hat1 ⊢; clear hv1; have O1 := Aside0.mk ho1; have B1 := Aside0.mk hb1; have G1 := Aside0.mk hg1; have AT1 := Aside0.mk hat1; clear ho1 hb1 hg1 hat1; have hk1 := blk_grown (w := World.drew _) H.out.1 G1.out (R72_ne H.out.2 H.out.1 (by decide)); have hc1 := blk_cell hk1 0; have hf1 := blk_frozen hk1 0; have K1 := Aside0.mk hk1; clear hk1; simp at hc1)
  all_goals
    go_wp2
    go_ret
    exact net_end O1.out B1.out K1.out (KeepBut.of_grown (w := w) ⟨G1.out.os, G1.out.tape, G1.out.output, G1.out.size, fun k hk hr => G1.out.block k hk hr⟩ b) hb (by simpa using AT1.out) (by simp)

theorem turn_nil (i : Int) (s : ByteArray) : Calls Try.prog 40 #[.pointer none, .int .i64 i, .string s] w fun e w' => e = .returned (.bool false) ∧ w = w' := by
  go_enter Try.func40, Try.ntmps40
  go_wp2_with fail
  refine (there_nil _ i).mono ?_; rintro e w' ⟨rfl, rfl⟩
  go_wp2_with fail
  go_ret
  exact ⟨rfl, rfl⟩

theorem turn_not (h : NetAt w B b A c xs) (i : Int) (s : ByteArray) (hi : ¬ (0 ≤ i ∧ i < (xs.length : Int))) :
    Calls Try.prog 40 #[.pointer (some ⟨b, 0, none⟩), .int .i64 i, .string s] w fun e w' => e = .returned (.bool false) ∧ w = w' := by
  go_enter Try.func40, Try.ntmps40
  go_wp2_with fail
  refine (there_any _ b A xs.length c i false h.1 (by simp; omega)).mono ?_; rintro e w' ⟨rfl, rfl⟩
  go_wp2_with fail
  go_ret
  exact ⟨rfl, rfl⟩

theorem turn_any (h : NetAt w B b A c xs) (HB : Below B w0 w) (_hb : B ≤ b) (i : Nat) (s : ByteArray) (hi : i < xs.length) :
    Calls Try.prog 40 #[.pointer (some ⟨b, 0, none⟩), .int .i64 i, .string s] w (NetTo B b w0 w (Value.slice A xs.length c).ownBlock (.bool true) (xs.set i ⟨(xs.getD i z72).f0, s⟩)) := by
  have h0 := blk_cell h.1 0
  simp at h0
  obtain ⟨g, rfl, hg1, hg2, hc1, hc2, hx0, hx1, hy0, hy1⟩ := item_at h.2 i hi
  obtain ⟨cs, hcl, hcm, hcc, _⟩ := Kd.R_elem h.2 z72 (i : Int) (by omega) (by omega)
  obtain rfl := k72_openM hcm
  have hs := Kd.R_seg (okp := fun _ => False) h.2 (i : Int) (by omega) (by omega) (seg := [.string s]) (j := 1) hcl hcc (show 2 ≤ 2 from by decide) (x' := (⟨(xs.getD i z72).f0, s⟩ : S72)) (k72_mkM _ _ _ _) (fun _ hk => hk.elim)
  rw [Int.toNat_natCast] at hs
  have hbg : b ≠ g := by
    have := R72_ne h.2 h.1 (by decide)
    simpa [Value.ownBlock] using this
  have fin : NetTo B b w0 w (Value.slice (some ⟨g, 0, none⟩) xs.length c).ownBlock (.bool true) (xs.set i ⟨(xs.getD i z72).f0, s⟩) (.returned (.bool true)) (w.setCell ⟨g, i * 2 + 1, none⟩ (.string s)) := by
    refine ⟨rfl, some ⟨g, 0, none⟩, c, ⟨?_, ?_⟩, HB.setCell hg1 _, ⟨by simp [World.setCell], fun k _ hk hr => Below.heap_setCell w ⟨g, i * 2 + 1, none⟩ _ k (fun e => hr (by rw [e]; rfl))⟩, .inl ?_⟩
    · rw [List.length_set]
      exact blk_far h.1 (by simpa using hbg) _
    · have := hs.1
      rw [List.length_set]
      exact this
    · rw [List.length_set]
  have FIN := Aside0.mk fin
  clear fin hs hcm hcc hcl
  have H := Aside0.mk h
  clear h HB
  have b1 : (i : Int) < (xs.length : Int) := by omega
  generalize xs.getD i z72 = x at *
  have hu72 := Try.underlying72
  go_enter Try.func40, Try.ntmps40
  go_wp2_with fail
  refine (there_any _ b (some ⟨g, 0, none⟩) xs.length c i true H.out.1 (by simp; omega)).mono ?_; rintro e w' ⟨rfl, rfl⟩
  go_wp2_with fail
  go_ret
  exact FIN.out

def Item (x : S72) : Value := .agg #[.int .i64 x.f0, .string x.f1]

theorem take_nil (i : Int) : Calls Try.prog 37 #[.pointer none, .int .i64 i] w fun e w' => e = .returned (.tuple #[Item z72, .bool false]) ∧ Below w.heap.size w w' := by
  have hu72 := Try.underlying72
  go_enter Try.func37, Try.ntmps37
  go_wp2_with fail
  refine (there_nil _ i).mono ?_; rintro e w' ⟨rfl, rfl⟩
  go_wp2_with fail
  exact bodyPost_ret (v := .tuple #[Item z72, .bool false]) (by simp [results, Try.results37, go_sem, Item, z72]) rfl ⟨rfl, (Below.refl _ _).alloc (Nat.le_refl _) _⟩

theorem take_not (h : NetAt w B b A c xs) (i : Int) (hi : ¬ (0 ≤ i ∧ i < (xs.length : Int))) :
    Calls Try.prog 37 #[.pointer (some ⟨b, 0, none⟩), .int .i64 i] w fun e w' => e = .returned (.tuple #[Item z72, .bool false]) ∧ Below w.heap.size w w' := by
  have hbs : b < w.heap.size := blk_lt h.1
  have hu72 := Try.underlying72
  go_enter Try.func37, Try.ntmps37
  go_wp2_with fail
  refine (there_any _ b A xs.length c i false ((Below.heap_alloc _ _ _ hbs).trans h.1) (by simp; omega)).mono ?_; rintro e w' ⟨rfl, rfl⟩
  go_wp2_with fail
  exact bodyPost_ret (v := .tuple #[Item z72, .bool false]) (by simp [results, Try.results37, go_sem, Item, z72]) rfl ⟨rfl, (Below.refl _ _).alloc (Nat.le_refl _) _⟩

theorem take_any (h : NetAt w B b A c xs) (HB : Below B w0 w) (hB : B ≤ w.heap.size) (_hb : B ≤ b) (i : Nat) (hi : i < xs.length) :
    Calls Try.prog 37 #[.pointer (some ⟨b, 0, none⟩), .int .i64 i] w (NetTo B b w0 w (Value.slice A xs.length c).ownBlock (.tuple #[Item (xs.getD i z72), .bool true]) (xs.eraseIdx i)) := by
  have hbs : b < w.heap.size := blk_lt h.1
  have h0 := blk_cell h.1 0
  simp at h0
  obtain ⟨g, rfl, hg1, hg2, hc1, hc2, hx0, hx1, _, _⟩ := item_at h.2 i hi
  have hbg : b ≠ g := by
    have := R72_ne h.2 h.1 (by decide)
    simpa [Value.ownBlock] using this
  generalize xs.getD i z72 = x at *
  have H := Aside0.mk h
  have HBB := Aside0.mk HB
  clear h HB
  have b1 : (i : Int) < (xs.length : Int) := by omega
  have hu72 := Try.underlying72
  go_enter Try.func37, Try.ntmps37
  go_wp2_with fail
  refine (there_any _ b (some ⟨g, 0, none⟩) xs.length c i true ((Below.heap_alloc _ _ _ hbs).trans H.out.1) (by simp; omega)).mono ?_; rintro e w' ⟨rfl, rfl⟩
  go_wp2_with fail
  have hW : ∀ k, k < w.heap.size → ((w.alloc (.cells #[.int .i64 0, .string ⟨#[]⟩] 72)).alloc (.cells #[.int .i64 x.f0, .string x.f1] 72)).heap[k]? = w.heap[k]? := fun k hk => (Below.heap_alloc _ _ _ (by simp; omega)).trans (Below.heap_alloc _ _ _ hk)
  have hown : Kd.R k72 72 ((w.alloc (.cells #[.int .i64 0, .string ⟨#[]⟩] 72)).alloc (.cells #[.int .i64 x.f0, .string x.f1] 72)) B (fun _ => True) (.slice (some ⟨g, 0, none⟩) xs.length c) xs :=
    R72_move H.out.2 (fun k hk => hW k (by simp [Value.ownBlock] at hk; omega))
  have hkR : ((w.alloc (.cells #[.int .i64 0, .string ⟨#[]⟩] 72)).alloc (.cells #[.int .i64 x.f0, .string x.f1] 72)).heap[w.heap.size]? = some (.cells #[.int .i64 0, .string ⟨#[]⟩] 72 (0, 0)) := (Below.heap_alloc _ _ _ (by simp)).trans (heap_alloc_new w _)
  have hkX : ((w.alloc (.cells #[.int .i64 0, .string ⟨#[]⟩] 72)).alloc (.cells #[.int .i64 x.f0, .string x.f1] 72)).heap[w.heap.size + 1]? = some (.cells #[.int .i64 x.f0, .string x.f1] 72 (0, 0)) := by
    have := heap_alloc_new (w.alloc (.cells #[.int .i64 0, .string ⟨#[]⟩] 72)) (.cells #[.int .i64 x.f0, .string x.f1] 72)
    simpa using this
  refine (delete_any w0 _ B g c xs i hi hown ((HBB.out.alloc hB _).alloc (by simp; omega) _) (by simp; omega) hc1 hc2).mono ?_
  rintro e w3 ⟨rfl, ho3, hb3, hk3⟩
  have kb := (hk3.2 b (by simp; omega) hbg (by simp)).trans ((hW b hbs).trans H.out.1)
  have kR := (hk3.2 w.heap.size (by simp; omega) (by omega) (by simp)).trans hkR
  have kX := (hk3.2 (w.heap.size + 1) (by simp) (by omega) (by simp)).trans hkX
  have hsz : w.heap.size + 1 < w3.heap.size := blk_lt kX
  have hkeep : KeepBut w w3 b (some g) := ⟨by omega, fun k hk _ hr => (hk3.2 k (by simp; omega) (fun e => hr (by rw [e])) (by simp)).trans (hW k hk)⟩
  have K3 := Aside0.mk hkeep
  clear hW hown hkR hkX hkeep
  have cb := blk_cell kb 0
  have fb := blk_frozen kb 0
  have cR0 := blk_cell kR 0
  have cR1 := blk_cell kR 1
  have fR0 := blk_frozen kR 0
  have fR1 := blk_frozen kR 1
  have cX0 := blk_cell kX 0
  have cX1 := blk_cell kX 1
  simp at cb cR0 cR1 cX0 cX1
  have O3 := Aside0.mk ho3
  have B3 := Aside0.mk hb3
  have KB := Aside0.mk kb
  clear ho3 hb3 hk3 kb kR kX
  go_wp2_with fail
  refine bodyPost_ret (v := .tuple #[Item x, .bool true]) ?_ rfl ⟨rfl, some ⟨g, 0, none⟩, c, ⟨?_, ?_⟩, ?_, ?_, .inl rfl⟩
  · simp [results, Try.results37, go_sem, Item, cR0, cR1]
  · have h1 := blk_set KB.out 0 (.slice (some ⟨g, 0, none⟩) (xs.length - 1) c)
    have e : (xs.eraseIdx i).length = xs.length - 1 := List.length_eraseIdx_of_lt hi
    rw [e]
    exact blk_far (blk_far (by simpa using h1) (by simp; omega) _) (by simp; omega) _
  · have e : (xs.eraseIdx i).length = xs.length - 1 := List.length_eraseIdx_of_lt hi
    rw [e]
    exact R72_far (R72_far (R72_far O3.out (by simpa [Value.ownBlock] using hbg) _) (by simp [Value.ownBlock]; omega) _) (by simp [Value.ownBlock]; omega) _
  · exact ((B3.out.setCell _hb _).setCell hB _).setCell hB _
  · have h1 := K3.out.set_ 0 (.slice (some ⟨g, 0, none⟩) (xs.length - 1) c)
    exact ⟨by simpa [World.setCell] using h1.1, fun k hk hkb hr => (Below.heap_setCell _ _ _ k (by simp; omega)).trans ((Below.heap_setCell _ _ _ k (by simp; omega)).trans (h1.2 k hk hkb hr))⟩


end

end Go.Proofs.Ytbaljleimiflmaa.Net

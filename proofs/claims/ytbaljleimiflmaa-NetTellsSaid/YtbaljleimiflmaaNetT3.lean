/-
  The walk of NetTells: it answers true of every list of acts and touches nothing elder. Conditions: the acts lie in memory as a slice does.
-/
import Derived.Test.YtbaljleimiflmaaNetT1
import Derived.Deep.RegionHeld3
namespace Go.Proofs.Ytbaljleimiflmaa.Net
open Go.RowKit Go.Proofs.Ytbaljleimiflmaa.PNetTells Go.Proofs.YtbaljleimiflmaaW.PrintWords Go.Proofs.YtbaljleimiflmaaW.PrintLast
attribute [local go_sem high] eqA72

theorem R71_len {w : World} {B : Nat} {v : Value} {xs : List S72} (h : Kd.R k71 71 w B (fun _ => True) v (xs.map cv)) : ∃ A c, v = .slice A xs.length c := by
  obtain ⟨A, c, e⟩ := R71_shape h
  rw [List.length_map] at e
  exact ⟨A, c, e⟩
theorem erase_cv : ∀ (xs : List S72) (i : Nat), (xs.map cv).eraseIdx i = (xs.eraseIdx i).map cv
  | [], _ => rfl
  | _ :: _, 0 => rfl
  | x :: xs, i + 1 => by
    show cv x :: (xs.map cv).eraseIdx i = cv x :: (xs.eraseIdx i).map cv
    rw [erase_cv xs i]
theorem set_cv : ∀ (xs : List S72) (i : Nat) (x : S72), (xs.map cv).set i (cv x) = (xs.set i x).map cv
  | [], _, _ => rfl
  | _ :: _, 0, _ => rfl
  | y :: xs, i + 1, x => by
    show cv y :: (xs.map cv).set i (cv x) = cv y :: (xs.set i x).map cv
    rw [set_cv xs i x]

section
variable {w w1 : World} {X : Nat} {k N : Int} {t : ByteArray} {q : Value} {xs ys : List S72}
def AllT (w w1 : World) (X : Nat) (k N : Int) (t : ByteArray) (q : Value) (xs ys : List S72) (e : Ending) (w2 : World) : Prop :=
  ∃ A c, e = .returned (.slice A xs.length c) ∧ Kd.R k72 72 w2 w1.heap.size (fun _ => True) (.slice A xs.length c) xs ∧ TSt w w2 X k N t q xs ys
theorem all_t (h : TSt w w1 X k N t q xs ys) (hl : xs.length ≤ 1000) : Calls Try.prog 41 #[.pointer (some ⟨w.heap.size, 0, none⟩)] w1 (AllT w w1 X k N t q xs ys) := by
  obtain ⟨A, c, hn, _, _, _⟩ := id h.1
  exact (all_any w1 w.heap.size w.heap.size A c xs hn (by omega)).mono fun _ _ ⟨A', c', he, hr, hb⟩ => ⟨A', c', he, hr, h.below hb⟩
def AlikeT (w : World) (X : Nat) (k N : Int) (t : ByteArray) (q : Value) (xs : List S72) (e : Ending) (w2 : World) : Prop := e = .returned (.bool true) ∧ TSt w w2 X k N t q xs xs
theorem alike_t {A Aq : Option Addr} {B c cq : Nat} (h : TSt w w1 X k N t (.slice Aq xs.length cq) xs xs) (hr : Kd.R k72 72 w1 B (fun _ => True) (.slice A xs.length c) xs) (hl : xs.length ≤ 1000) :
    Calls Try.prog 43 #[.slice A xs.length c, .slice Aq xs.length cq] w1 (AlikeT w X k N t (.slice Aq xs.length cq) xs) := by
  have h1 := Kd.R_reads' hr
  have h2 := Kd.R_reads' h.2.1
  have hc := billetlaw25_alike.calls (xs.length + 1) A c xs Aq cq (xs.map cv) true w1 h1.2.2 h1.2.1 h2.2.2 (by rw [List.length_map]; exact h2.2.1) (alike_f xs hl)
  rw [List.length_map] at hc
  exact hc.mono fun _ _ ⟨he, n, hn⟩ => ⟨he, by rw [hn]; exact h.drewN n⟩
def WithoutT (w : World) (X : Nat) (k N : Int) (t : ByteArray) (xs ys : List S72) (e : Ending) (w2 : World) : Prop := ∃ A c, e = .returned (.slice A ys.length c) ∧ TSt w w2 X k N t (.slice A ys.length c) xs ys
theorem without_t {Aq : Option Addr} {cq : Nat} (h : TSt w w1 X k N t (.slice Aq ys.length cq) xs ys) (i : Nat) (hi : i < ys.length) (hl : ys.length ≤ 1000) :
    Calls Try.prog 42 #[.slice Aq ys.length cq, .int .i64 i] w1 (WithoutT w X k N t xs (ys.eraseIdx i)) := by
  have h2 := Kd.R_reads' h.2.1
  have hc := billetref27_Without.calls Aq cq (ys.map cv) i ((ys.eraseIdx i).map cv) w1 h2.2.2 (by rw [List.length_map]; exact h2.2.1) (by rw [without_f _ _ (by rw [List.length_map]; exact hi) (by rw [List.length_map]; exact hl), erase_cv])
  rw [List.length_map] at hc
  refine hc.mono fun _ _ ⟨v, he, hr, hb⟩ => ?_
  obtain ⟨A, c, rfl⟩ := R71_len hr
  exact ⟨A, c, he, h.fresh hb hr⟩
end

set_option maxRecDepth 100000 in
theorem tells_wakes (A : Option Addr) (l : List S68) (cap kf : Nat) (w : World) (hl : Kd.C k68 w A l.length l) (hc : l.length ≤ cap) (hf : billetlaw25_fair.f kf l = some false) :
    Calls Try.prog 10 #[.slice A l.length cap] w fun e w' => e = .returned (.bool true) ∧ Below w.heap.size w w' := by
  have HF := Aside0.mk (billetlaw25_fair.calls kf A cap l false w hl hc hf)
  clear hl hf
  go_enter Try.func10, Try.ntmps10
  go_wp2_with fail
  refine HF.out.mono ?_; rintro e w1 ⟨rfl, n, rfl⟩
  clear HF
  go_wp2_with fail
  refine (wakes_any _).mono ?_; rintro e w8 ⟨rfl, hb⟩
  go_wp2_with fail
  go_ret
  exact ⟨rfl, (pw_below_drewN (Below.refl _ _) n).trans (hb.mono (by simp))⟩

theorem R71_block {W : World} {B g : Nat} {xs : List S71} {inner : List Value} (h : W.heap[g]? = some (.cells inner.toArray 71 (0, 0))) (hB : B ≤ g) (hm : xs.length ≤ 1000) (hr : Reps (k71.M W B (fun _ => True)) 2 xs inner) :
    Kd.R k71 71 W B (fun _ => True) (.slice (some ⟨g, 0, none⟩) xs.length xs.length) xs :=
  ⟨fun _ _ => trivial, inner, ⟨hr.1, .inr ⟨g, xs.length, inner.toArray, rfl, hB, h, Nat.le_refl _, by simp [maxLen]; omega, (show inner.toArray.size = xs.length * 2 by simpa using hr.1), List.take_of_length_le (show inner.toArray.toList.length ≤ xs.length * 2 by have := hr.1; simp at this ⊢; omega)⟩⟩, hr⟩
theorem R71_empty {W : World} {B g : Nat} (h : W.heap[g]? = some (.cells #[] 71 (0, 0))) (hB : B ≤ g) : Kd.R k71 71 W B (fun _ => True) (.slice (some ⟨g, 0, none⟩) 0 0) [] :=
  R71_block (xs := []) (inner := []) h hB (by simp) (Reps.none _ _)
theorem R71_one {W : World} {B g : Nat} (N : Int) (t : ByteArray) (h : W.heap[g]? = some (.cells #[.int .i64 N, .string t] 71 (0, 0))) (hB : B ≤ g) : Kd.R k71 71 W B (fun _ => True) (.slice (some ⟨g, 0, none⟩) 1 1) [⟨N, t⟩] :=
  R71_block (xs := [⟨N, t⟩]) (inner := [.int .i64 N, .string t]) h hB (by simp) ((Reps.none _ _).snoc (k71_mkM W B _ ⟨N, t⟩) rfl)
theorem R71_below {w w1 : World} {B : Nat} {v : Value} {xs : List S71} (h : Kd.R k71 71 w B (fun _ => True) v xs) (hb : Below w.heap.size w w1) : Kd.R k71 71 w1 B (fun _ => True) v xs := by
  obtain ⟨inner, ho⟩ := R71_own h
  exact R71_move h (fun j hj => hb.block j (own_lt ho j hj))
theorem bel_alloc {w W : World} (h : Below w.heap.size w W) (o : Obj) : Below w.heap.size w (W.alloc o) := h.alloc h.size o
theorem bel_size {w W : World} (h : Below w.heap.size w W) : w.heap.size ≤ W.heap.size := h.size
theorem C71_below {w W : World} {A : Option Addr} {n : Nat} {xs : List S71} (h : Kd.C k71 w A n xs) (hb : Below w.heap.size w W) : ReadsRow (k71.K W) k71.sz W A n xs := Kd.C_below h hb
theorem new_at {W : World} {o : Obj} {s : Nat} (h : W.heap.size = s) : (W.alloc o).heap[s]? = some o := by subst h; exact heap_alloc_new W o
theorem old_at {W : World} {o p : Obj} {s : Nat} (h : W.heap[s]? = some p) : (W.alloc o).heap[s]? = some p := by
  rw [Below.heap_alloc _ _ _ (Array.getElem?_eq_some_iff.1 h).1]
  exact h
theorem drew_at {W : World} {o : Option Obj} {s : Nat} (h : W.heap[s]? = o) : W.drew.heap[s]? = o := h
theorem item_cv {w : World} {B : Nat} {A : Option Addr} {c : Nat} {xs : List S72} (h : Kd.R k71 71 w B (fun _ => True) (.slice A xs.length c) (xs.map cv)) (i : Nat) (hi : i < xs.length) :
    ∃ g, A = some ⟨g, 0, none⟩ ∧ B ≤ g ∧ g < w.heap.size ∧ xs.length ≤ c ∧ c ≤ 9223372036854775807 ∧ w.cell? ⟨g, i * 2, none⟩ = some (.int .i64 (xs.getD i z72).f0) ∧ w.cell? ⟨g, i * 2 + 1, none⟩ = some (.string (xs.getD i z72).f1) ∧
      w.frozen? ⟨g, i * 2, none⟩ = false ∧ w.frozen? ⟨g, i * 2 + 1, none⟩ = false := by
  have h' : Kd.R k71 71 w B (fun _ => True) (.slice A (xs.map cv).length c) (xs.map cv) := by rw [List.length_map]; exact h
  have h2 := item71_at h' i (by rw [List.length_map]; exact hi)
  rw [getD_cv, List.length_map] at h2
  exact h2
theorem seg_cv {w : World} {B : Nat} {A : Option Addr} {c : Nat} {xs : List S72} (h : Kd.R k71 71 w B (fun _ => True) (.slice A xs.length c) (xs.map cv)) (i : Nat) (hi : i < xs.length) (t : ByteArray) {g : Nat} (hg : A = some ⟨g, 0, none⟩) :
    Kd.R k71 71 (w.setCell ⟨g, i * 2 + 1, none⟩ (.string t)) B (fun _ => True) (.slice A xs.length c) ((xs.set i ⟨(xs.getD i z72).f0, t⟩).map cv) := by
  subst hg
  have hl : i < (xs.map cv).length := by rw [List.length_map]; exact hi
  obtain ⟨cs, hcl, hcm, hcc, _⟩ := Kd.R_elem h z71 (i : Int) (by omega) (by omega)
  obtain rfl := k71_openM hcm
  have hs := Kd.R_seg (okp := fun _ => False) h (i : Int) (by omega) (by omega) (seg := [.string t]) (j := 1) hcl hcc (show 2 ≤ 2 from by decide) (x' := (⟨((xs.map cv).getD i z71).f0, t⟩ : S71)) (k71_mkM _ _ _ _) (fun _ hk => hk.elim)
  rw [Int.toNat_natCast] at hs
  rw [← set_cv]
  rw [getD_cv] at hs
  exact hs.1
theorem all_b {w w1 : World} {X : Nat} {k N : Int} {t : ByteArray} {q : Value} {xs ys : List S72} (h : TSt w w1 X k N t q xs ys) (hl : xs.length ≤ 1000) : Calls Try.prog 41 #[.pointer (some ⟨w.heap.size, 0, none⟩)] w1 (Made w1 xs) := by
  obtain ⟨A, c, hn, _, _, _⟩ := id h.1
  exact all_any w1 w.heap.size w.heap.size A c xs hn (by omega)
def Copy (w0 w : World) (A : Option Addr) (c n : Nat) : Prop := Below w0.heap.size w0 w ∧ ∃ ys : List S72, ys.length = n ∧ Kd.R k72 72 w w0.heap.size (fun _ => True) (.slice A ys.length c) ys
theorem Copy.at_ {w0 w : World} {A : Option Addr} {c n : Nat} (h : Copy w0 w A c n) (j : Nat) (hj : j < n) : ∃ g f0 f1, A = some ⟨g, 0, none⟩ ∧ w0.heap.size ≤ g ∧ g < w.heap.size ∧ n ≤ c ∧ c ≤ 9223372036854775807 ∧ w.cell? ⟨g, j * 2, none⟩ = some (.int .i64 f0) ∧ w.cell? ⟨g, j * 2 + 1, none⟩ = some (.string f1) ∧
    w.frozen? ⟨g, j * 2, none⟩ = false ∧ w.frozen? ⟨g, j * 2 + 1, none⟩ = false := by
  obtain ⟨hb, ys, rfl, hr⟩ := h
  obtain ⟨g, e, h1, h2, h3, h4, h5, h6, h7, h8⟩ := item_at hr j hj
  exact ⟨g, _, _, e, h1, h2, h3, h4, h5, h6, h7, h8⟩
theorem Copy.set0 {w0 w : World} {g c n : Nat} (h : Copy w0 w (some ⟨g, 0, none⟩) c n) (hg : w0.heap.size ≤ g) (j : Nat) (hj : j < n) (x : Int) : Copy w0 (w.setCell ⟨g, j * 2, none⟩ (.int .i64 x)) (some ⟨g, 0, none⟩) c n := by
  obtain ⟨hb, ys, rfl, hr⟩ := h
  refine ⟨hb.setCell hg _, ys.set j ⟨x, (ys.getD j z72).f1⟩, by rw [List.length_set], ?_⟩
  obtain ⟨cs, hcl, hcm, hcc, _⟩ := Kd.R_elem hr z72 (j : Int) (by omega) (by omega)
  obtain rfl := k72_openM hcm
  have hs := Kd.R_seg (okp := fun _ => False) hr (j : Int) (by omega) (by omega) (seg := [.int .i64 x]) (j := 0) hcl hcc (show 1 ≤ 2 from by decide) (x' := (⟨x, (ys.getD j z72).f1⟩ : S72)) (k72_mkM _ _ _ _) (fun _ hk => hk.elim)
  rw [Int.toNat_natCast] at hs
  rw [List.length_set]
  exact hs.1
theorem Copy.set1 {w0 w : World} {g c n : Nat} (h : Copy w0 w (some ⟨g, 0, none⟩) c n) (hg : w0.heap.size ≤ g) (j : Nat) (hj : j < n) (s : ByteArray) : Copy w0 (w.setCell ⟨g, j * 2 + 1, none⟩ (.string s)) (some ⟨g, 0, none⟩) c n := by
  obtain ⟨hb, ys, rfl, hr⟩ := h
  refine ⟨hb.setCell hg _, ys.set j ⟨(ys.getD j z72).f0, s⟩, by rw [List.length_set], ?_⟩
  obtain ⟨cs, hcl, hcm, hcc, _⟩ := Kd.R_elem hr z72 (j : Int) (by omega) (by omega)
  obtain rfl := k72_openM hcm
  have hs := Kd.R_seg (okp := fun _ => False) hr (j : Int) (by omega) (by omega) (seg := [.string s]) (j := 1) hcl hcc (show 2 ≤ 2 from by decide) (x' := (⟨(ys.getD j z72).f0, s⟩ : S72)) (k72_mkM _ _ _ _) (fun _ hk => hk.elim)
  rw [Int.toNat_natCast] at hs
  rw [List.length_set]
  exact hs.1
theorem Item_eq (x : S72) : Item x = .agg #[.int .i64 x.f0, .string x.f1] := rfl
theorem Item_z : Item z72 = .agg #[.int .i64 0, .string ⟨#[]⟩] := rfl
theorem lit_reads {W : World} {g : Nat} (N : Int) (t : ByteArray) (h : W.heap[g]? = some (.cells #[.int .i64 N, .string t] 71 (0, 0))) : ReadsRow (k71.K W) k71.sz W (some ⟨g, 0, none⟩) 1 [(⟨N, t⟩ : S71)] :=
  (Kd.R_reads' (R71_one (B := 0) N t h (Nat.zero_le _))).2.2
theorem gate_step {P : Program} {ops : Array Oper} {o : Oper} {a : Act} {W : World} {Kc : Act → World → Prop} {Q : Exit → Act → World → Prop} (N : Tmp) (_ : o.dst = some N) (h : if Region.wanted o (yielded ops a.tmps) = true then Oper.wp P o a W Kc Q else Kc (a.put o.dst undef) W) :
    if Region.wanted o (yielded ops a.tmps) = true then Oper.wp P o a W Kc Q else Kc (a.put o.dst undef) W := h
theorem grown_at {W w4 : World} {r : Option Nat} {p : Obj} {s : Nat} (hg : W.grownBy w4 r) (hr : some s ≠ r) (h : W.heap[s]? = some p) : w4.heap[s]? = some p :=
  (hg.block s (Array.getElem?_eq_some_iff.1 h).1 hr).trans h

end Go.Proofs.Ytbaljleimiflmaa.Net

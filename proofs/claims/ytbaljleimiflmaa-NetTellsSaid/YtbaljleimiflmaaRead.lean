/-
  A row's slice of whatever elements, read as the print's words read it: for every kind of element whose cells can be told from the form's own reading.
-/
import Derived.Test.YtbaljleimiflmaaWWords
import Derived.ProofKit
import Derived.SizedLaws
import Derived.SliceStrings
import Derived.Deep.Slices
namespace Go.Proofs.Ytbaljleimiflmaa.Read
open Go.ChangeShapes Go.WideShapes Go.Proofs.YtbaljleimiflmaaW.PrintWords

section
variable {H : Type} {enc : TypeId × Value → H} {P : Program} {w : World} {base : Nat} {spare : Nat → Bool} {held : Bool} {α : Type}

/-- A slice that came in, element by element. -/
theorem read_slice (kd : Kd α) (Q : α → Prop) {t e : TypeId} {a : Option Addr} {len cap : Nat} {d : DataW H} {ps : List MemPlace} (ht : P.underlying t = some (.slice e)) (hc : P.cellsOf e = kd.sz)
    (hK : ∀ n cs y, DataW.trod enc P w base spare held n e cs = some y → ∃ x, kd.K w x cs ∧ Q x) (h : DataW.Trod enc P w base spare held t (.slice a len cap) d ps) :
    ∃ l : List α, len = l.length ∧ kd.C w a l.length l ∧ len ≤ cap ∧ ∀ x ∈ l, Q x := by
  obtain ⟨fuel, hf⟩ := h
  rcases DataW.trod_slice ht hf with ⟨hcs, _⟩ | ⟨b, l, c, elems, rest, n, _, hcs, _, _, hl, hm, hlen, hel, _, _⟩
  · simp [Value.cells] at hcs
    obtain ⟨rfl, rfl, rfl⟩ := hcs
    exact ⟨[], rfl, ⟨rfl, by simp, fun h => by simp at h⟩, Nat.le_refl _, fun x hx => by simp at hx⟩
  · simp [Value.cells] at hcs
    obtain ⟨rfl, rfl, rfl⟩ := hcs
    have each : ∀ i, i < len → ∃ (x : α) (cs : List Value), kd.K w x cs ∧ Q x ∧ cs.length = kd.sz ∧ ∀ j u, cs[j]? = some u → w.cell? (b.add (i * kd.sz + j)) = some u := by
      intro i hi
      have h1 := hel i hi
      rw [List.getElem?_eq_getElem (by omega : i < elems.length), Option.bind_eq_some_iff] at h1
      obtain ⟨cs, hcells, htr⟩ := h1
      obtain ⟨x, hx, hq⟩ := hK n cs _ htr
      obtain ⟨_, hcl, hat⟩ := World.cells?_some hcells
      refine ⟨x, cs, hx, hq, kd.K_len hx, fun j u hj => ?_⟩
      have hj2 : j < cs.length := (List.getElem?_eq_some_iff.1 hj).1
      have := hat j (by omega)
      rw [← hc, ← hj, ← this, Go.Deep.add_add]
    refine ⟨(List.range len).attach.map fun i => (each i.1 (List.mem_range.1 i.2)).choose, by simp, ⟨rfl, by simp [maxLen] at *; omega, fun _ => ⟨b, rfl, fun j p hp => ?_⟩⟩, hl, fun x hx => ?_⟩
    · have hj : j < len := by have := (List.getElem?_eq_some_iff.1 hp).1; simpa using this
      have hp2 : p = (each j hj).choose := by
        rw [List.getElem?_map, List.getElem?_attach] at hp
        simp [hj] at hp
        exact hp.symm
      subst hp2
      obtain ⟨cs, h1, _, h3, h4⟩ := (each j hj).choose_spec
      exact ⟨cs, h3, h1, h4⟩
    · obtain ⟨i, _, rfl⟩ := List.mem_map.1 hx
      obtain ⟨cs, _, h2, _, _⟩ := (each i.1 (List.mem_range.1 i.2)).choose_spec
      exact h2

/-- Its weight. -/
theorem sized_any {W : World} {t e : TypeId} {a : Option Addr} {len cap : Nat} {d : DataW H} {ps : List MemPlace} {ts : List TypeId} {ds : List (DataW H)} {j : Nat}
    (hsz : (DataW.weightsEach P ts ds).all (· ≤ reachBytes) = true) (ht : ts[j]? = some t) (hd : ds[j]? = some d) (hu : P.underlying t = some (.slice e)) {B : Nat} (hB : P.bytesOf e = B)
    (h : DataW.Trod enc P W base spare held t (.slice a len cap) d ps) : len * B ≤ 140737488351232 := by
  obtain ⟨fuel, hf⟩ := h
  rcases DataW.trod_slice hu hf with ⟨hcs, _⟩ | ⟨b, l, c, elems, rest, n, _, hcs, hx, _, hl, hm, hlen, hel, _, _⟩
  · simp [Value.cells] at hcs
    obtain ⟨rfl, rfl, rfl⟩ := hcs
    simp
  · simp [Value.cells] at hcs
    obtain ⟨rfl, rfl, rfl⟩ := hcs
    obtain ⟨hx, _⟩ := Prod.mk.inj hx
    subst hx
    have z := sized_slice hsz ht hd hu
    rw [hB] at z
    rw [List.length_map, List.length_map, hlen] at z
    exact Nat.le_trans (Nat.mul_le_mul_right _ (Nat.le_add_right _ _)) z

theorem string_K {n : Nat} {e : TypeId} {cs : List Value} {y : DataW H × List MemPlace} (he : P.underlying e = some .string) (h : DataW.trod enc P w base spare held n e cs = some y) : ∃ x : ByteArray, Kd.string.K w x cs ∧ x.size ≤ maxLen := by
  obtain ⟨s, rfl, _, hw⟩ := DataW.trod_string he h
  exact ⟨s, rfl, hw⟩
theorem int_K {k : IntKind} {n : Nat} {e : TypeId} {cs : List Value} {y : DataW H × List MemPlace} (he : P.underlying e = some (.int k)) (h : DataW.trod enc P w base spare held n e cs = some y) : ∃ x : Int, (Kd.int k).K w x cs ∧ (Lit.int k x).wf = true := by
  obtain ⟨s, rfl, _, hw⟩ := DataW.trod_int he h
  exact ⟨s, rfl, hw⟩

/-- A struct of two fields; of three. -/
theorem pair_K {α β : Type} {ka : Kd α} {kb : Kd β} {Q0 : α → Prop} {Q1 : β → Prop} {t : TypeId} {f0 f1 : Field} {n : Nat} {cs : List Value} {y : DataW H × List MemPlace} (ht : P.underlying t = some (.struct #[f0, f1]))
    (o0 : f0.offset = 0) (o1 : f1.offset = P.cellsOf f0.type) (hc : P.cellsOf t = P.cellsOf f0.type + P.cellsOf f1.type)
    (h0 : ∀ n cs y, DataW.trod enc P w base spare held n f0.type cs = some y → ∃ x, ka.K w x cs ∧ Q0 x) (h1 : ∀ n cs y, DataW.trod enc P w base spare held n f1.type cs = some y → ∃ x, kb.K w x cs ∧ Q1 x)
    (h : DataW.trod enc P w base spare held n t cs = some y) : ∃ x : α × β, (Kd.pair ka kb).K w x cs ∧ Q0 x.1 ∧ Q1 x.2 := by
  obtain ⟨xs, m, _, _, hl, hlen, hf⟩ := DataW.trod_struct ht h
  match xs, hlen with
  | [y0, y1], _ =>
    have g0 := hf 0 f0 rfl
    have g1 := hf 1 f1 rfl
    obtain ⟨x0, k0, q0⟩ := h0 _ _ _ g0
    obtain ⟨x1, k1, q1⟩ := h1 _ _ _ g1
    refine ⟨(x0, x1), ⟨_, _, ?_, k0, k1⟩, q0, q1⟩
    rw [o0, o1, List.drop_zero, List.take_of_length_le (l := cs.drop (P.cellsOf f0.type)) (by rw [List.length_drop]; omega), List.take_append_drop]

theorem triple_K {α β γ : Type} {ka : Kd α} {kb : Kd β} {kc : Kd γ} {Q0 : α → Prop} {Q1 : β → Prop} {Q2 : γ → Prop} {t : TypeId} {f0 f1 f2 : Field} {n : Nat} {cs : List Value} {y : DataW H × List MemPlace} (ht : P.underlying t = some (.struct #[f0, f1, f2]))
    (o0 : f0.offset = 0) (o1 : f1.offset = P.cellsOf f0.type) (o2 : f2.offset = P.cellsOf f0.type + P.cellsOf f1.type) (hc : P.cellsOf t = P.cellsOf f0.type + (P.cellsOf f1.type + P.cellsOf f2.type))
    (h0 : ∀ n cs y, DataW.trod enc P w base spare held n f0.type cs = some y → ∃ x, ka.K w x cs ∧ Q0 x) (h1 : ∀ n cs y, DataW.trod enc P w base spare held n f1.type cs = some y → ∃ x, kb.K w x cs ∧ Q1 x)
    (h2 : ∀ n cs y, DataW.trod enc P w base spare held n f2.type cs = some y → ∃ x, kc.K w x cs ∧ Q2 x)
    (h : DataW.trod enc P w base spare held n t cs = some y) : ∃ x : α × (β × γ), (Kd.pair ka (Kd.pair kb kc)).K w x cs ∧ Q0 x.1 ∧ Q1 x.2.1 ∧ Q2 x.2.2 := by
  obtain ⟨xs, m, _, _, hl, hlen, hf⟩ := DataW.trod_struct ht h
  match xs, hlen with
  | [y0, y1, y2], _ =>
    have g0 := hf 0 f0 rfl
    have g1 := hf 1 f1 rfl
    have g2 := hf 2 f2 rfl
    obtain ⟨x0, k0, q0⟩ := h0 _ _ _ g0
    obtain ⟨x1, k1, q1⟩ := h1 _ _ _ g1
    obtain ⟨x2, k2, q2⟩ := h2 _ _ _ g2
    refine ⟨(x0, x1, x2), ⟨_, _, ?_, k0, _, _, rfl, k1, k2⟩, q0, q1, q2⟩
    rw [o0, o1, o2, List.drop_zero, List.take_of_length_le (l := cs.drop (P.cellsOf f0.type + P.cellsOf f1.type)) (by rw [List.length_drop]; omega), ← List.drop_drop, List.take_append_drop, List.take_append_drop]
end
end Go.Proofs.Ytbaljleimiflmaa.Read

/-
  The walk of NetTurns: it answers true of every list of items, every number, every text and touches nothing elder. Conditions: the items lie in memory as a slice does.
-/
import Derived.Test.YtbaljleimiflmaaNetOrd
import Derived.Deep.RegionHeld3
namespace Go.Proofs.Ytbaljleimiflmaa.Net
open Go.RowKit Go.Proofs.Ytbaljleimiflmaa.PNetTells Go.Proofs.YtbaljleimiflmaaW.PrintWords Go.Proofs.YtbaljleimiflmaaW.PrintLast
attribute [local go_sem high] eqA72

theorem turns_far (A : Option Addr) (l : List S72) (cap : Nat) (a : Int) (s : ByteArray) (w : World) (h : 50 < l.length) (hm : l.length ≤ 9223372036854775807) :
    Calls Try.prog 13 #[.slice A l.length cap, .int .u8 a, .string s] w fun e w' => e = .returned (.bool true) ∧ Below w.heap.size w w' := by
  go_enter Try.func13, Try.ntmps13
  go_wp2_with fail
  refine (wakes_any _).mono ?_; rintro e w8 ⟨rfl, hb⟩
  go_wp2_with fail
  go_ret
  exact ⟨rfl, hb⟩
theorem turns_none (A : Option Addr) (cap : Nat) (a : Int) (s : ByteArray) (w : World) :
    Calls Try.prog 13 #[.slice A 0 cap, .int .u8 a, .string s] w fun e w' => e = .returned (.bool true) ∧ Below w.heap.size w w' := by
  go_enter Try.func13, Try.ntmps13
  go_wp2_with fail
  refine (wakes_any _).mono ?_; rintro e w8 ⟨rfl, hb⟩
  go_wp2_with fail
  go_ret
  exact ⟨rfl, hb⟩

theorem getD_snoc_at (l : List S72) (x : S72) : (l ++ [x]).getD l.length z72 = x := by simp [List.getD_eq_getElem?_getD]
theorem getD_snoc_lt (l : List S72) (x : S72) (k : Nat) (hk : k < l.length) : (l ++ [x]).getD k z72 = l.getD k z72 := by simp [List.getD_eq_getElem?_getD, List.getElem?_append_left hk]
theorem getD_set_at (l : List S72) (x : S72) (k : Nat) (hk : k < l.length) : (l.set k x).getD k z72 = x := by simp [List.getD_eq_getElem?_getD, List.getElem?_set_self hk]
theorem getD_set_ne (l : List S72) (x : S72) (i k : Nat) (h : k ≠ i) : (l.set i x).getD k z72 = l.getD k z72 := by simp [List.getD_eq_getElem?_getD, List.getElem?_set_ne (fun e => h e.symm)]
theorem erase_snoc (l : List S72) (x : S72) : (l ++ [x]).eraseIdx l.length = l := by simp [List.eraseIdx_append_of_length_le]
theorem set_back (l : List S72) (i : Nat) (hi : i < l.length) (s : ByteArray) : (l.set i ⟨(l.getD i z72).f0, s⟩).set i ⟨((l.set i ⟨(l.getD i z72).f0, s⟩).getD i z72).f0, (l.getD i z72).f1⟩ = l := by
  rw [getD_set_at _ _ _ hi, List.set_set]
  apply List.ext_getElem (by simp)
  intro j h1 h2
  rw [List.getElem_set]
  split
  · rename_i e
    subst e
    rw [List.getD_eq_getElem?_getD, List.getElem?_eq_getElem hi]
    rfl
  · rfl

theorem R72_blk {w : World} {B g n c : Nat} {xs : List S72} (h : Kd.R k72 72 w B (fun _ => True) (.slice (some ⟨g, 0, none⟩) n c) xs) : ∃ cs, w.heap[g]? = some (.cells cs 72 (0, 0)) := by
  obtain ⟨inner, ho⟩ := R72_own h
  exact own_typed ho g rfl
/-- What region 12 reads, in a later world. -/
theorem after_ {w w3 w4 : World} {ad : Addr} {l : List S72} {i g1 : Nat} {x : S72} (hl : Kd.C k72 w (some ad) l.length l) (hi : i < l.length) (hb : Below w.heap.size w w4) (hk : w4.heap[g1]? = w3.heap[g1]?) (hx : l.getD i z72 = x)
    (hy0 : w3.cell? ⟨g1, l.length * 2, none⟩ = some (.int .i64 x.f0)) (hy1 : w3.cell? ⟨g1, l.length * 2 + 1, none⟩ = some (.string x.f1)) :
    w4.cell? ⟨g1, l.length * 2, none⟩ = some (.int .i64 x.f0) ∧ w4.cell? ⟨g1, l.length * 2 + 1, none⟩ = some (.string x.f1) ∧ w4.cell? (ad.add (i * 2)) = some (.int .i64 x.f0) ∧ w4.cell? ⟨(ad.add (i * 2)).block, (ad.add (i * 2)).off + 1, none⟩ = some (.string x.f1) := by
  obtain ⟨ad', e, h0, h1⟩ := came_at hl hb i hi
  injection e with e
  subst e
  rw [hx] at h0 h1
  exact ⟨(World.cell?_of_block (a := ⟨g1, l.length * 2, none⟩) hk).trans hy0, (World.cell?_of_block (a := ⟨g1, l.length * 2 + 1, none⟩) hk).trans hy1, h0, h1⟩

set_option maxHeartbeats 4000000 in
set_option maxRecDepth 100000 in
theorem turns_near (A : Option Addr) (l : List S72) (cap : Nat) (a : Nat) (s : ByteArray) (w : World) (hn : l.length ≤ 50) (h0 : 0 < l.length) (ha : a ≤ 255) (hl : Kd.C k72 w A l.length l) :
    Calls Try.prog 13 #[.slice A l.length cap, .int .u8 a, .string s] w fun e w' => e = .returned (.bool true) ∧ Below w.heap.size w w' := by
  have HL := Aside0.mk hl
  clear hl
  have hu72 := Try.underlying72
  have hz : ((l.length : Int) == 0) = false := by rw [beq_eq_false_iff_ne]; omega
  obtain ⟨i, hi⟩ : ∃ i, i = a % l.length := ⟨_, rfl⟩
  have hil : i < l.length := by rw [hi]; exact Nat.mod_lt _ h0
  have him : (a : Int) % (l.length : Int) = (i : Int) := by rw [hi]; exact (Int.natCast_emod _ _).symm
  have IM := Lib.hid him
  clear hi him
  go_enter Try.func13, Try.ntmps13
  go_wp2_with fail
  go_loopw [8] (fun i wr => ∃ k : Nat, k ≤ l.length ∧ i = .int .i64 k ∧ NSt w w.heap.size w.heap.size (fun _ => False) (l.take k) wr) (fun i _ => l.length - (intOf i).toNat)
  case atStart => exact ⟨0, Nat.zero_le _, rfl, by rw [List.take_zero]; exact NSt.new w⟩
  case round =>
    obtain ⟨k, hk, rfl, hs⟩ := hrel
    by_cases hlt : k < l.length
    · obtain ⟨ad, rfl, hi⟩ := came_at HL.out hs.old k hlt
      have ht := take_snoc72 l k hlt
      have HT := Lib.hid ht
      clear ht
      obtain ⟨hx0, hx1⟩ := hi
      generalize l.getD k z72 = x at *
      have b1 : (k : Int) < (l.length : Int) := by omega
      have ks : (l.take k).length ≤ 100 := by rw [List.length_take]; omega
      have HS := Lib.hid hs
      clear hs
      go_wp2_with fail
      go_still_tail 10, (by kernel_rfl)
      change wpList _ _ _ _ _ (World.drew _)
      have S2 : NSt w w.heap.size w.heap.size (fun _ => False) (l.take k) wr.drew := HS.out.drewN 1
      go_wp2_with fail
      refine (put_s S2 (by omega) x.f0 x.f1).mono ?_; rintro e w2 ⟨rfl, hs2, _⟩
      rw [HT.out] at hs2
      clear S2 hx0 hx1 HS HT
      go_wp2_with fail
      go_roundw
      case rel => exact ⟨k + 1, by omega, by go_num, hs2⟩
      case measure => simp [intOf]; omega
    · obtain rfl : k = l.length := by omega
      rw [List.take_length] at hs
      clear hlt hk
      go_wp2_with fail
      rw [IM.out]
      clear IM hz
      refine (twice_s hs (by omega) i hil).mono ?_; rintro e w2 ⟨rfl, hs2, _⟩
      clear hs
      go_wp2_with fail
      refine (all_s hs2 (by rw [List.length_append, List.length_singleton]; omega)).mono ?_; rintro e w3 ⟨A1, c1, rfl, hr, hs3, _⟩
      clear hs2
      have hlx : (l ++ [l.getD i z72]).length = l.length + 1 := by simp
      have HLX := Lib.hid hlx
      clear hlx
      obtain ⟨g1, rfl, hg1, hg1', _, _, hy0, hy1, _, _⟩ := item_at hr l.length (by rw [HLX.out]; omega)
      rw [getD_snoc_at] at hy0 hy1
      obtain ⟨ad, rfl, hx0, hx1⟩ := came_at HL.out hs3.old i hil
      have RA := Aside0.mk hr
      have H3 := Aside0.mk hs3
      clear hr hs3
      rw [HLX.out]
      have b1 : (i : Int) < (l.length : Int) := by omega
      have SA : NSt w w.heap.size w.heap.size (fun k => k = g1) (l ++ [l.getD i z72]) w3 := H3.out.fewer (fun k hk => .inr (by rw [hk]; rfl))
      go_wp2_with fail
      have SB : NSt w w.heap.size w.heap.size (fun k => k = g1) (l ++ [l.getD i z72]) w3.drew := SA.drewN 1
      clear SA
      have hbk := R72_blk RA.out
      generalize hx : l.getD i z72 = x at *
      have HXX := Lib.hid hx
      clear hx
      have b4 : (l.length : Int) < (l.length : Int) + 1 := by omega
      have b5 : l.length < l.length + 1 := by omega
      have hw : IntKind.i64.wrap ((l.length : Int) + 1) = (l.length : Int) + 1 := IntWalk.i64_in _ (by omega)
      go_region_held3 (fun w' => w'.cell? ⟨g1, l.length * 2, none⟩ = some (.int .i64 x.f0) ∧ w'.cell? ⟨g1, l.length * 2 + 1, none⟩ = some (.string x.f1) ∧ w'.cell? (ad.add (i * 2)) = some (.int .i64 x.f0) ∧ w'.cell? ⟨(ad.add (i * 2)).block, (ad.add (i * 2)).off + 1, none⟩ = some (.string x.f1))
        (first | exact ⟨hy0, hy1, hx0, hx1⟩ | exact P4 | exact P5)
        (first | (go_at_call 38; refine (drop_s SB l.length (by rw [HLX.out]; omega)).mono ?_; rintro e w4 ⟨rfl, hs4, k4⟩; rw [erase_snoc] at hs4; have P4 := after_ HL.out hil hs4.old (k4 g1 rfl) HXX.out hy0 hy1) | (go_at_call 40; refine (turn_s hs4 i s hil).mono ?_; rintro e w5 ⟨rfl, hs5, k5⟩; have P5 := after_ HL.out hil hs5.old ((k5 g1 rfl).trans (k4 g1 rfl)) HXX.out hy0 hy1))
      clear b4 b5 hw hy0 hy1 hx0 hx1 P4 P5 SB hs4 hbk
      have RA5 := Aside0.mk (R72_move RA.out (w1 := w5) (fun k hk => ((k5 k (by simpa [Value.ownBlock] using hk.symm)).trans (k4 k (by simpa [Value.ownBlock] using hk.symm)))))
      have K5 := Aside0.mk k5
      clear k4 k5 RA H3
      go_wp2_with fail
      refine (all_s hs5 (by rw [List.length_set]; omega)).mono ?_; rintro e w6 ⟨A2, c2, rfl, hr, hs6, k6⟩
      obtain ⟨g2, rfl, hg2, hg2', _, _, _, _, _, _⟩ := item_at hr i (by rw [List.length_set]; omega)
      have S6 : NSt w w.heap.size w.heap.size (fun k => k = g1 ∨ k = g2) (l.set i ⟨(l.getD i z72).f0, s⟩) w6 := hs6.fewer (fun k hk => by rcases hk with h | h <;> simp [h, Value.ownBlock])
      have hg15 : g1 < w5.heap.size := by obtain ⟨cs, hcs⟩ := R72_blk RA5.out; exact blk_lt hcs
      have RA6 := Aside0.mk (R72_move RA5.out (w1 := w6) (fun k hk => k6 k (by simp [Value.ownBlock] at hk; omega)))
      have RB6 := Aside0.mk hr
      clear hs5 hr hs6 k6 RA5 K5
      have hlb : (l.set i ⟨(l.getD i z72).f0, s⟩).length = l.length := by rw [List.length_set]
      rw [hlb] at RB6
      rw [hlb]
      have HLB := Lib.hid hlb
      clear hlb
      have HS6 := Aside0.mk S6
      clear S6
      go_wp2_with fail
      go_loopw [12] (fun iv wr => ∃ k : Nat, k ≤ l.length ∧ iv = .int .i64 k ∧ NSt w w.heap.size w.heap.size (fun k => k = g1 ∨ k = g2) (l.set i ⟨(l.getD i z72).f0, s⟩) wr ∧ Kd.R k72 72 wr w2.heap.size (fun _ => True) (.slice (some ⟨g1, 0, none⟩) (l ++ [x]).length c1) (l ++ [x]) ∧ Kd.R k72 72 wr w5.heap.size (fun _ => True) (.slice (some ⟨g2, 0, none⟩) (l.set i ⟨(l.getD i z72).f0, s⟩).length c2) (l.set i ⟨(l.getD i z72).f0, s⟩)) (fun iv _ => l.length - (intOf iv).toNat)
      case atStart => exact ⟨0, Nat.zero_le _, rfl, HS6.out, RA6.out, by rw [HLB.out]; exact RB6.out⟩
      case round =>
        clear HS6 RA6 RB6
        obtain ⟨k, hk, rfl, hs, hra, hrb⟩ := hrel
        by_cases hlt : k < l.length
        · obtain ⟨ad', e', hx0, hx1⟩ := came_at HL.out hs.old k hlt
          injection e' with e'
          subst e'
          obtain ⟨g1', e', _, hgs1, _, _, hy0, hy1, _, _⟩ := item_at hra k (by simp; omega)
          injection e' with e'
          injection e' with e'
          subst e'
          rw [getD_snoc_lt l x k hlt] at hy0 hy1
          obtain ⟨g2', e', _, hgs2, _, _, hz0, hz1, _, _⟩ := item_at hrb k (by rw [HLB.out]; omega)
          injection e' with e'
          injection e' with e'
          subst e'
          have hlt2 := cell_lt hx0
          have b2 : (k : Int) < (l.length : Int) := by omega
          have fin : ∀ (q : Nat) (o : Obj), NSt w w.heap.size w.heap.size (fun k => k = g1 ∨ k = g2) (l.set i ⟨(l.getD i z72).f0, s⟩) ((wr.alloc o).drewN q) ∧ Kd.R k72 72 ((wr.alloc o).drewN q) w2.heap.size (fun _ => True) (.slice (some ⟨g1, 0, none⟩) (l ++ [x]).length c1) (l ++ [x]) ∧ Kd.R k72 72 ((wr.alloc o).drewN q) w5.heap.size (fun _ => True) (.slice (some ⟨g2, 0, none⟩) (l.set i ⟨(l.getD i z72).f0, s⟩).length c2) (l.set i ⟨(l.getD i z72).f0, s⟩) := by
            intro q o
            refine ⟨((hs.more o).fewer (fun _ h => .inl h)).drewN q, R72_move hra (fun k hk => Below.heap_alloc wr o k ?_), R72_move hrb (fun k hk => Below.heap_alloc wr o k ?_)⟩
            · simp [Value.ownBlock] at hk; omega
            · simp [Value.ownBlock] at hk; omega
          have FIN := Aside0.mk fin
          clear fin hs hra hrb
          by_cases hki : k = i
          · have b3 : ((k : Int) == (i : Int)) = true := by rw [beq_iff_eq]; omega
            rw [hki, getD_set_at l _ i hil, HXX.out] at hz0 hz1
            rw [hki, HXX.out] at hx0 hx1 hy0 hy1
            rw [← hki] at hx0 hx1 hy0 hy1 hz0 hz1
            clear hki
            simp only at hz0 hz1
            go_wp2_with fail
            go_quiet (fail)
            go_wp2
            go_roundw
            case rel => exact ⟨k + 1, by omega, by go_num, FIN.out _ _⟩
            case measure => simp [intOf]; omega
          · have b3 : ((k : Int) == (i : Int)) = false := by rw [beq_eq_false_iff_ne]; omega
            rw [getD_set_ne l _ i k hki] at hz0 hz1
            clear hki
            generalize l.getD k z72 = y at *
            go_wp2_with fail
            go_quiet (fail)
            go_wp2
            go_roundw
            case rel => exact ⟨k + 1, by omega, by go_num, FIN.out _ _⟩
            case measure => simp [intOf]; omega
        · obtain rfl : k = l.length := by omega
          clear hlt hk hra
          obtain ⟨ad', e', hx0, hx1⟩ := came_at HL.out hs.old i hil
          injection e' with e'
          subst e'
          rw [HXX.out] at hx0 hx1
          have TU := Aside0.mk (turn_s hs i x.f1 (by rw [HLB.out]; exact hil))
          go_wp2_with fail
          refine TU.out.mono ?_; rintro e w7 ⟨rfl, hs7, k7⟩
          have S7 : NSt w w.heap.size w.heap.size (fun k => k = g1 ∨ k = g2) l w7 := by
            have e := set_back l i hil s
            rw [HXX.out] at e hs7
            rw [e] at hs7
            exact hs7
          clear TU hs hs7
          go_wp2_with fail
          refine (all_s S7 (by omega)).mono ?_; rintro e w8 ⟨A3, c3, rfl, hr3, hs8, k8⟩
          obtain ⟨g3, rfl, _, _, _, _, hv0, hv1, _, _⟩ := item_at hr3 i hil
          rw [HXX.out] at hv0 hv1
          obtain ⟨ad', e', hu0, hu1⟩ := came_at HL.out hs8.old i hil
          injection e' with e'
          subst e'
          rw [HXX.out] at hu0 hu1
          clear hx0 hx1 S7 hr3 k7 k8
          have S8 := Aside0.mk hs8
          clear hs8
          go_wp2_with fail
          go_still_tail 24, (by kernel_rfl)
          change wpList _ _ _ _ _ (World.drew _)
          have S9 := Aside0.mk (S8.out.drewN 1)
          clear S8
          go_wp2_with fail
          refine (wakes_any _).mono ?_; rintro e w9 ⟨rfl, hb⟩
          go_wp2_with fail
          go_ret
          exact ⟨rfl, S9.out.old.trans (hb.mono S9.out.size.1)⟩

theorem netTurns_any (A : Option Addr) (l : List S72) (cap : Nat) (a : Int) (s : ByteArray) (w : World) (ha : 0 ≤ a ∧ a ≤ 255) (hm : l.length ≤ 9223372036854775807) (hl : Kd.C k72 w A l.length l) :
    Calls Try.prog 13 #[.slice A l.length cap, .int .u8 a, .string s] w fun e w' => e = .returned (.bool true) ∧ Below w.heap.size w w' := by
  by_cases h : l.length ≤ 50
  · by_cases h0 : l.length = 0
    · rw [h0]
      exact turns_none A cap a s w
    · obtain ⟨n, rfl⟩ := Int.eq_ofNat_of_zero_le ha.1
      exact turns_near A l cap n s w h (by omega) (by omega) hl
  · exact turns_far A l cap a s w (by omega) hm

end Go.Proofs.Ytbaljleimiflmaa.Net

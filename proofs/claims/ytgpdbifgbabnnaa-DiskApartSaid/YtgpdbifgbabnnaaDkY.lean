/- The head of chapter 10's laws: calls whose answers are fixed. Conditions: none. Written by gen_dkY.py. -/
import Derived.Test.YtgpdbifgbabnnaaDkD
import Derived.Test.YtgpdbifgbabnnaaDkE
import Derived.Test.YtgpdbifgbabnnaaDkH
namespace Go.Proofs.Ytgpdbifgbabnnaa
open Go.RowKit Go.Maps
set_option linter.unusedVariables false
set_option linter.unusedSimpArgs false
def hA : ByteArray := (ByteArray.mk #[97])
def hB : ByteArray := (ByteArray.mk #[98])
def hX : ByteArray := (ByteArray.mk #[120, 121, 122])
def hT : ByteArray := (ByteArray.mk #[49, 50])
def hN : ByteArray := (ByteArray.mk #[48, 49, 50, 51, 52, 53, 54, 55, 56, 57])
def hXT : ByteArray := ByteArray.mk #[120, 121, 122, 49, 50]
def hR : ByteArray := ByteArray.mk #[120, 121, 122, 49]
theorem hA_list : hA.toList = [97] := ByteArray.toList_mk [97]
theorem hA_may : MayN hA := ⟨by decide, by decide, by rw [hA_list]; simp [okB]⟩
theorem hB_list : hB.toList = [98] := ByteArray.toList_mk [98]
theorem hB_may : MayN hB := ⟨by decide, by decide, by rw [hB_list]; simp [okB]⟩
theorem hA_ok : okS hA := mayN_ok hA_may
theorem hB_ok : okS hB := mayN_ok hB_may
def S0 : DS := ⟨[], 9, 0, false⟩
def S1 : DS := ⟨[⟨hA, hX, 0⟩], 9, 0, false⟩
def S2 : DS := ⟨[⟨hA, hX, 3⟩], 9, 0, false⟩
def S3 : DS := ⟨[⟨hA, hXT, 3⟩], 9, 0, false⟩
def S4 : DS := ⟨[⟨hA, hXT, 3⟩], 9, 0, true⟩
def S5 : DS := ⟨[⟨hA, hR, 4⟩], 9, 0, false⟩
theorem get_one (f : Fl) (x : ByteArray) (h : f.n = x) : getF [f] x = some f := by rw [getF_cons, if_pos (by rw [h])]
theorem set_one (f g : Fl) (h : f.n = g.n) : setF [f] g = [g] := by unfold setF; rw [if_pos (by rw [h])]
theorem e1 : apD S0 hA hX = (S1, 0) := by
  have e : ByteArray.empty ++ hX = hX := by decide
  unfold apD S0
  simp only [getF_nil, oldB, oldS, szF, usedF_nil, Option.map_none, Option.getD_none, hA_may, not_true_eq_false, if_false, Bool.false_eq_true, e, setF]
  rfl
theorem e2 : syD S1 hA = (S2, 0) := by
  unfold syD S1
  rw [if_neg (by simp), get_one _ _ rfl]
  show burnE ⟨_, 9, 0, false⟩ (setF [⟨hA, hX, 0⟩] ⟨hA, hX, _⟩) false = _
  rw [set_one ⟨hA, hX, 0⟩ ⟨hA, hX, _⟩ (by rfl)]; rfl
theorem e3 : apD S2 hA hT = (S3, 0) := by
  have e : hX ++ hT = hXT := by decide
  unfold apD S2
  rw [if_neg (by simp), if_neg (fun q => q hA_may)]
  have h1 : szF [⟨hA, hX, 3⟩] hA = 3 := by unfold szF; rw [get_one _ _ rfl]; rfl
  have h2 : oldB [⟨hA, hX, 3⟩] hA = hX := by unfold oldB; rw [get_one _ _ rfl]; rfl
  have h3 : oldS [⟨hA, hX, 3⟩] hA = 3 := by unfold oldS; rw [get_one _ _ rfl]; rfl
  simp only [h1, h2, h3, e]
  rw [set_one ⟨hA, hX, 3⟩ ⟨hA, hXT, 3⟩ (by rfl)]; rfl
theorem e4 : crD S3 = S4 := rfl
theorem e5 : waD S4 [1] = S5 := by
  have e : cutB hXT 4 = hR := by decide
  show (⟨[⟨hA, cutB hXT 4, 4⟩], 9, 0, false⟩ : DS) = _
  rw [e]; rfl
theorem e6 : rdD S5 hA = (hR, 4, 0) := by
  unfold rdD S5
  rw [if_neg (by simp), get_one _ _ rfl]
theorem e7 : apD S5 hB hN = (S5, 6) := by
  unfold apD
  rw [if_neg (by simp [S5]), if_neg (fun q => q hB_may)]
  have h1 : szF S5.L hB = 0 := by unfold szF S5; rw [getF_cons, if_neg (by rw [hA_list, hB_list]; simp), getF_nil]; rfl
  have h2 : usedF S5.L = 4 := rfl
  have h3 : S5.room = 9 := rfl
  have h4 : hN.size = 10 := rfl
  rw [h1, h2, h3, h4, if_neg (by decide), if_pos (by decide)]
theorem ok0 : DOk S0 := DOk.new (by decide) (by decide)
theorem ok1 : DOk S1 := by have := ap_ok (x := hA) (b := hX) ok0; rw [e1] at this; exact this
theorem ok2 : DOk S2 := by have := sy_ok (x := hA) ok1; rw [e2] at this; exact this
theorem ok3 : DOk S3 := by have := ap_ok (x := hA) (b := hT) ok2; rw [e3] at this; exact this
theorem ok4 : DOk S4 := cr_ok ok3
theorem ok5 : DOk S5 := by have := wa_ok (K := [1]) ok4; rw [e5] at this; exact this

theorem keep_own {n d b i : Nat} (hi : (Value.slice (some ⟨n, 0, none⟩) 1 1).ownBlock = some i) (h : d < n ∧ b < n) : ¬ DiskS d b i := by
  have e : n = i := by simpa [Value.ownBlock] using hi
  intro q
  rcases q with q | q <;> omega
theorem keep_slc (w : World) : Slc (intEnc .i64) 1 (w.alloc (.cells #[.int .i64 1] 3)) (.slice (some ⟨w.heap.size, 0, none⟩) 1 1) [1] := by
  refine .inr ⟨w.heap.size, 0, 1, rfl, by decide, by decide, fun i hi j u hu => ?_⟩
  have hi' : i = 0 := by simpa using hi
  subst hi'
  have hc := (Blk.new w [.int .i64 1] 3).cell j
  simp only [Nat.zero_mul, Nat.zero_add]
  rw [hc]; exact hu
set_option maxRecDepth 100000 in
set_option maxHeartbeats 6400000 in
theorem head_any (hLi : ListOk) (w : World) : Calls Try.prog 11 #[] w fun e w' => e = .returned (.bool true) ∧ Below w.heap.size w w' := by
  have hLi' := Lib.hid hLi
  have hnew := new_any w 9
  have hS : ∀ i, DiskS (w.heap.size + 1) w.heap.size i → w.heap.size ≤ i := fun i hi => by rcases hi with rfl | rfl <;> omega
  have hS' := Lib.hid hS; clear hS
  have c1 := fun W h => append_any W (w.heap.size + 1) w.heap.size S0 hA hX h ok0 (by decide) hA_ok (by decide)
  have c2 := fun W h => sync_any W (w.heap.size + 1) w.heap.size S1 hA h ok1 (by decide) hA_ok
  have c3 := fun W h => append_any W (w.heap.size + 1) w.heap.size S2 hA hT h ok2 (by decide) hA_ok (by decide)
  have c4 := fun W h => crash_any W (w.heap.size + 1) w.heap.size S3 h
  have c5 := fun W v h h1 h2 => wake_any hLi W (w.heap.size + 1) w.heap.size S4 v [1] h ok4 (by decide) h1 h2
  have c6 := fun W h => read_any W (w.heap.size + 1) w.heap.size S5 hA h hA_ok
  have c7 := fun W h => append_any W (w.heap.size + 1) w.heap.size S5 hB hN h ok5 (by decide) hB_ok (by decide)
  have c8 := fun W h => used_any W (w.heap.size + 1) w.heap.size S5 h ok5
  rw [e1] at c1; rw [e2] at c2; rw [e3] at c3; rw [e4] at c4; rw [e5] at c5; rw [e6] at c6; rw [e7] at c7
  have h8 : usedF S5.L = 4 := rfl
  rw [h8] at c8
  simp only at c1 c2 c3 c6 c7
  unfold hA at c1 c2 c3 c6
  unfold hX at c1
  unfold hT at c3
  unfold hB hN at c7
  unfold hR at c6
  have k1 := Lib.hid c1; have k2 := Lib.hid c2; have k3 := Lib.hid c3; have k4 := Lib.hid c4; have k5 := Lib.hid c5; have k6 := Lib.hid c6; have k7 := Lib.hid c7; have k8 := Lib.hid c8
  clear c1 c2 c3 c4 c5 c6 c7 c8 h8
  have q0 : maxI 9 0 = 9 := rfl
  rw [q0] at hnew
  go_enter Try.func11, Try.ntmps11
  go_wp2_with (first
    | (go_at_call 8; (with_reducible refine hnew.mono ?_); clear hnew; rintro e w1 ⟨rfl, B1, D1⟩)
    | (go_at_call 24; first
      | ((with_reducible refine (k1.out _ D1).mono ?_); rintro e w2 ⟨rfl, D2, U2⟩)
      | ((with_reducible refine (k3.out _ D3).mono ?_); rintro e w4 ⟨rfl, D4, U4⟩)
      | ((with_reducible refine (k7.out _ D7).mono ?_); rintro e w8 ⟨rfl, D8, U8⟩))
    | (go_at_call 25; (with_reducible refine (k2.out _ D2).mono ?_); rintro e w3 ⟨rfl, D3, U3⟩)
    | (go_at_call 19; (with_reducible refine (k4.out _ D4).mono ?_); rintro e w5 ⟨rfl, D5, U5⟩; have Ba : Below w5.heap.size w5 (w5.alloc (.cells #[.int .i64 1] 3)) := (Below.refl _ w5).alloc (Nat.le_refl _) _; have D5a := D5.pure Ba)
    | (go_at_call 20; refine (k5.out (w5.alloc (.cells #[.int .i64 1] 3)) _ D5a (keep_slc w5) (fun _ i hi => keep_own hi D5.lt)).mono ?_; rintro e w6 ⟨rfl, D6, U6⟩)
    | (go_at_call 15; (with_reducible refine (k6.out _ D6).mono ?_); rintro e w7 ⟨rfl, B7⟩; have D7 := D6.pure B7)
    | (go_at_call 16; (with_reducible refine (k8.out _ D8).mono ?_); rintro e w9 ⟨rfl, B9⟩))
  go_ret
  have A1 := B1
  have A2 := A1.trans (U2.below A1.size hS'.out)
  have A3 := A2.trans (U3.below A2.size hS'.out)
  have A4 := A3.trans (U4.below A3.size hS'.out)
  have A5 := A4.trans (U5.below A4.size hS'.out)
  have Aa := A5.trans (Ba.mono A5.size)
  have A6 := Aa.trans (U6.below Aa.size hS'.out)
  have A7 := A6.trans (B7.mono A6.size)
  have A8 := A7.trans (U8.below A7.size hS'.out)
  have A9 := A8.trans (B9.mono A8.size)
  exact ⟨rfl, A9⟩
end Go.Proofs.Ytgpdbifgbabnnaa


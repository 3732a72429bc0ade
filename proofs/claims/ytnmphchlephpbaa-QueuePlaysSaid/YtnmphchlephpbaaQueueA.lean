/- Package queue, first part: the search in a row that rises. Conditions: the row rises and is a length. -/
import Derived.Test.YtnmphchlephpbaaMapG
import Derived.Test.YtnmphchlephpbaaOpen
import Derived.WalkKit
import Derived.Test.YtnmphchlephpbaaProg
namespace Go.Proofs.Ytnmphchlephpbaa
open Go.RowKit

theorem less_any (w : World) (a b : Int) : Calls Try.prog 53 #[.int .u64 a, .int .u64 b] w fun e w' => e = .returned (.bool (decide (a < b))) ∧ w = w' := by
  have hn : ∀ (x : Int) (w : World), Calls Try.prog 55 #[.int .u64 x] w fun e w' => e = .returned (.bool false) ∧ w = w' := by
    intro x w
    go_enter Try.func55, Try.ntmps55
    go_wp2
    go_ret
    exact ⟨by simp, rfl⟩
  go_enter Try.func53, Try.ntmps53
  go_wp2_with (first | (go_at_call 55; refine (hn _ _).mono ?_; rintro e w' ⟨rfl, rfl⟩))
  go_ret
  exact ⟨by simp, rfl⟩

theorem nan_any (w : World) (x : Int) : Calls Try.prog 54 #[.int .u64 x] w fun e w' => e = .returned (.bool false) ∧ w = w' := by
  go_enter Try.func54, Try.ntmps54
  go_wp2
  go_ret
  exact ⟨by simp, rfl⟩

/-- The place of x in a row that rises. -/
def PlaceOf (L : List Int) (x : Int) (i : Nat) : Prop := i ≤ L.length ∧ (∀ j, (h : j < L.length) → j < i → L[j] < x) ∧ ∀ j, (h : j < L.length) → i ≤ j → x ≤ L[j]

theorem rise_le {L : List Int} (hL : L.Pairwise (· < ·)) {i j : Nat} (hi : i < L.length) (hj : j < L.length) (h : i ≤ j) : L[i] ≤ L[j] := by
  rcases Nat.lt_or_eq_of_le h with h | h
  · have := List.pairwise_iff_getElem.1 hL i j hi hj h
    omega
  · subst h; omega

theorem place_mem {L : List Int} (hL : L.Pairwise (· < ·)) {x : Int} {i : Nat} (h : PlaceOf L x i) : x ∈ L ↔ ∃ hi : i < L.length, L[i] = x := by
  constructor
  · intro hx
    obtain ⟨j, hj, rfl⟩ := List.getElem_of_mem hx
    have h1 : ¬ j < i := fun hji => by have := h.2.1 j hj hji; omega
    have hi : i < L.length := by omega
    refine ⟨hi, ?_⟩
    have h2 := h.2.2 i hi (Nat.le_refl _)
    have h3 := rise_le hL hi hj (by omega)
    omega
  · rintro ⟨hi, rfl⟩
    exact List.getElem_mem hi

set_option maxHeartbeats 400000 in
theorem bin_some (w : World) (g off cap : Nat) (L : List Int) (x : Int) (hL : L.Pairwise (· < ·)) (h1 : L.length ≤ 1000000)
    (hc : ∀ i, (h : i < L.length) → w.cell? ⟨g, off + i, none⟩ = some (.int .u64 L[i])) :
    Calls Try.prog 50 #[.slice (some ⟨g, off, none⟩) L.length cap, .int .u64 x] w fun e w' =>
      ∃ i, PlaceOf L x i ∧ e = .returned (.tuple #[.int .i64 (i : Nat), .bool (decide (x ∈ L))]) ∧ w = w' := by
  go_enter Try.func50, Try.ntmps50
  go_wp2
  go_loop [7, 8] (fun s7 s8 => ∃ lo hi : Nat, lo ≤ hi ∧ hi ≤ L.length ∧ s7 = .int .i64 lo ∧ s8 = .int .i64 hi ∧ (∀ j, (h : j < L.length) → j < lo → L[j] < x) ∧ ∀ j, (h : j < L.length) → hi ≤ j → x ≤ L[j]) (fun s7 s8 => (intOf s8 - intOf s7).toNat)
  case atStart => exact ⟨0, L.length, by omega, by omega, rfl, rfl, fun j h h' => absurd h' (by omega), fun j h h' => absurd h' (by omega)⟩
  case round =>
    obtain ⟨lo, hi, hlh, hhl, rfl, rfl, k1, k2⟩ := hrel
    have k1' := Lib.hid k1; clear k1
    have k2' := Lib.hid k2; clear k2
    by_cases hlt : lo < hi
    · have hm : (lo + hi) / 2 < L.length := by omega
      have c0 := hc ((lo + hi) / 2) hm
      have hl := Lib.hid hL
      cases hq : decide (L[(lo + hi) / 2] < x)
      · have hq' := of_decide_eq_false hq
        have hlow : ∀ j, (h : j < L.length) → (lo + hi) / 2 ≤ j → x ≤ L[j] := fun j h h' => by
          have := rise_le hL hm h h'
          omega
        have hlow' := Lib.hid hlow; clear hlow hq' hL
        go_wp2_with (first | (go_at_call 53; refine (less_any _ _ _).mono ?_; rintro e w' ⟨rfl, rfl⟩))
        go_round
        case rel => exact ⟨lo, (lo + hi) / 2, by omega, by omega, rfl, rfl, k1'.out, hlow'.out⟩
        case measure => simp [intOf]; omega
      · have hq' := of_decide_eq_true hq
        have hlow : ∀ j, (h : j < L.length) → j < (lo + hi) / 2 + 1 → L[j] < x := fun j h h' => by
          have := rise_le hL h hm (by omega)
          omega
        have hlow' := Lib.hid hlow; clear hlow hq' hL
        go_wp2_with (first | (go_at_call 53; refine (less_any _ _ _).mono ?_; rintro e w' ⟨rfl, rfl⟩))
        go_round
        case rel => exact ⟨(lo + hi) / 2 + 1, hi, by omega, by omega, by go_num, rfl, hlow'.out, k2'.out⟩
        case measure => simp [intOf]; omega
    · obtain rfl : lo = hi := by omega
      have hp : PlaceOf L x lo := ⟨hhl, k1'.out, k2'.out⟩
      have hp' := Lib.hid hp; clear hp hlh
      have hmem := Lib.hid (place_mem hL hp'.out)
      by_cases hll : lo < L.length
      · have c0 := hc lo hll
        clear hc hL
        by_cases hx : L[lo] = x
        · go_wp2_with (first | (go_at_call 54; refine (nan_any _ _).mono ?_; rintro e w' ⟨rfl, rfl⟩))
          go_ret2
          exact ⟨lo, hp'.out, by rw [decide_eq_true (hmem.out.2 ⟨hll, hx⟩)]; rfl, rfl⟩
        · go_wp2_with (first | (go_at_call 54; refine (nan_any _ _).mono ?_; rintro e w' ⟨rfl, rfl⟩))
          go_ret2
          exact ⟨lo, hp'.out, by rw [decide_eq_false (fun h => hx (hmem.out.1 h).2)]; exact congrArg (fun b => Ending.returned (Value.tuple #[.int .i64 lo, .bool b])) (beq_eq_false_iff_ne.2 hx), rfl⟩
      · clear hc hL
        go_wp2_with (first | (go_at_call 54; refine (nan_any _ _).mono ?_; rintro e w' ⟨rfl, rfl⟩))
        go_ret2
        exact ⟨lo, hp'.out, by rw [decide_eq_false (fun h => hll (hmem.out.1 h).1)]; rfl, rfl⟩

set_option maxHeartbeats 400000 in
theorem bin_any (w : World) (v : Value) (L : List Int) (x : Int) (hL : L.Pairwise (· < ·)) (h1 : L.length ≤ 1000000) (hs : Slc (intEnc .u64) 1 w v L) :
    Calls Try.prog 50 #[v, .int .u64 x] w fun e w' =>
      ∃ i, PlaceOf L x i ∧ e = .returned (.tuple #[.int .i64 (i : Nat), .bool (decide (x ∈ L))]) ∧ w = w' := by
  rcases hs with ⟨a, cap, rfl, _, rfl⟩ | ⟨g, off, cap, rfl, h2, h3, hc⟩
  · clear hL h1
    go_enter Try.func50, Try.ntmps50
    go_wp2
    go_loop [7, 8] (fun s7 s8 => s7 = .int .i64 0 ∧ s8 = .int .i64 0) (fun _ _ => 0)
    case atStart => exact ⟨rfl, rfl⟩
    case round =>
      obtain ⟨rfl, rfl⟩ := hrel
      go_wp2_with (first | (go_at_call 54; refine (nan_any _ _).mono ?_; rintro e w' ⟨rfl, rfl⟩))
      go_ret2
      exact ⟨0, ⟨by simp, by simp, by simp⟩, rfl, rfl⟩
  · exact bin_some w g off cap L x hL h1 (fun i hi => by have := hc i hi 0 _ rfl; simpa using this)

theorem at_any (w : World) (v : Value) (L : List Int) (x : Int) (hL : L.Pairwise (· < ·)) (h1 : L.length ≤ 1000000) (hs : Slc (intEnc .u64) 1 w v L) :
    Calls Try.prog 32 #[v, .int .u64 x] w fun e w' =>
      ∃ i, PlaceOf L x i ∧ e = .returned (.tuple #[.int .i64 (i : Nat), .bool (decide (x ∈ L))]) ∧ w = w' := by
  have hb := bin_any w v L x hL h1 hs
  clear hL h1 hs
  go_enter Try.func32, Try.ntmps32
  go_wp2_with (first | (go_at_call 50; refine hb.mono ?_; clear hb; rintro e w' ⟨i, hi, rfl, rfl⟩))
  go_ret2
  exact ⟨i, hi, rfl, rfl⟩

end Go.Proofs.Ytnmphchlephpbaa
